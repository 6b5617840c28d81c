/- A frame is read: what both say. -/
import Derived.Test.YtagpdfekeppbgaaObfrm
set_option linter.unusedVariables false
set_option linter.unusedSimpArgs false
set_option maxRecDepth 10000
set_option pp.deepTerms true
set_option pp.maxSteps 1000000
set_option maxHeartbeats 1000000
namespace Go.T
attribute [local irreducible] Run Back RS Ap
variable {H H0 : Heap} {i : Nat} {s : RSt}
/-- Bytes that were copied. -/
def cpy (c : List Int) : TV := if c.length = 0 then .nils else .sl (.own 1 false) (bl c)
theorem next_err (b : List Int) (hb : b.length ≤ 4000) (hby : ∀ x ∈ b, 0 ≤ x ∧ x ≤ 255) (he : (rN 262144 (b, 0)).2.2 ≠ 0) : CT n_frame_Next [.sl .shr (bl b)] H = some ⟨.tup [.nils, .int .i64 0, .int .i64 (rN 262144 (b, 0)).2.2], H, false⟩ := by
  have P := parted_err (H := H) b hb hby he
  have hq : ((rN 262144 (b, 0)).2.2 != 0) = true := by simp [he]
  refine callT_of rfl tab_frame_Next ?_
  simp (maxSteps := 4000000) only [↓set16, ↓sl16, zaa, zab, zac, zad, zz0, zz1, zz2, zz3, zz4, zae, zaf, zag, zah, zai, zaj, zak, zal, zam, zan, zao, zap, zaq, zar, zas, zat, zau, zav, zaw, zax, zay, zaz, zba, zbb, zbc, zbd, zbe, zbf, zbg, zbh, zbi, zbj, zbk, zbl, zbm, zbn, zbo, zbp, zbq, zbr, zbs, zbt, zbu, zbv, zbw, zbx, zby, zbz, zca, zcb, zcc, zcd, zce, zcf, zcg, zch, zci, zcj, zck, zcl, zcm, zcn, ne_eq, zco, zcp, zcq, zcr, zcs, List.replicate, zct, zcu, zcv, zcw, zcx, zcy, zcz, zda, zdb, zdc, zdd, zde, zdf, zdg, zdh, zdi, killT, delta, tak, ev, ad, taks, evs, nL, getH, pack, arith, callD, Nat.reduceAdd, Nat.reduceSub, Nat.reduceMul, Nat.reduceLeDiff, Nat.reduceEqDiff, Nat.reduceBEq, Nat.reduceBNe, Nat.reduceLT, Nat.reduceDiv, Int.reduceNeg, Int.reduceLT, Int.reduceLE, Int.reduceEq, Int.reduceNe, Int.reduceAdd, Int.reduceSub, Int.reduceMul, Int.reduceToNat, Int.reduceBEq, Int.reduceBNe, fillP, fillE, okE, okW, bound, elS, srcS, Fin, finish, ress, resOf, one, keeps, ↓reduceIte, Dl.ap, Dl.slots, okD, isLp, zeros, reduceCtorEq, zdj, zdk, tf_frame_Next, P, hq]
theorem next_short (b : List Int) (h : CT n_frame_parted [.sl .shr (bl b)] H = some ⟨.tup [.agg [.int .i64 0, .int .i64 0, .int .i64 0], .int .i64 4], H, false⟩) : CT n_frame_Next [.sl .shr (bl b)] H = some ⟨.tup [.nils, .int .i64 0, .int .i64 4], H, false⟩ := by
  refine callT_of rfl tab_frame_Next ?_
  simp (maxSteps := 4000000) only [↓set16, ↓sl16, zaa, zab, zac, zad, zz0, zz1, zz2, zz3, zz4, zae, zaf, zag, zah, zai, zaj, zak, zal, zam, zan, zao, zap, zaq, zar, zas, zat, zau, zav, zaw, zax, zay, zaz, zba, zbb, zbc, zbd, zbe, zbf, zbg, zbh, zbi, zbj, zbk, zbl, zbm, zbn, zbo, zbp, zbq, zbr, zbs, zbt, zbu, zbv, zbw, zbx, zby, zbz, zca, zcb, zcc, zcd, zce, zcf, zcg, zch, zci, zcj, zck, zcl, zcm, zcn, ne_eq, zco, zcp, zcq, zcr, zcs, List.replicate, zct, zcu, zcv, zcw, zcx, zcy, zcz, zda, zdb, zdc, zdd, zde, zdf, zdg, zdh, zdi, killT, delta, tak, ev, ad, taks, evs, nL, getH, pack, arith, callD, Nat.reduceAdd, Nat.reduceSub, Nat.reduceMul, Nat.reduceLeDiff, Nat.reduceEqDiff, Nat.reduceBEq, Nat.reduceBNe, Nat.reduceLT, Nat.reduceDiv, Int.reduceNeg, Int.reduceLT, Int.reduceLE, Int.reduceEq, Int.reduceNe, Int.reduceAdd, Int.reduceSub, Int.reduceMul, Int.reduceToNat, Int.reduceBEq, Int.reduceBNe, fillP, fillE, okE, okW, bound, elS, srcS, Fin, finish, ress, resOf, one, keeps, ↓reduceIte, Dl.ap, Dl.slots, okD, isLp, zeros, reduceCtorEq, zdj, zdk, tf_frame_Next, h]
theorem next (b : List Int) (hb : b.length ≤ 4000) (hby : ∀ x ∈ b, 0 ≤ x ∧ x ≤ 255) (wd m e : Nat) (hm : wd ≤ m) (he : e = m + 4) (hl : e ≤ b.length) (P : CT n_frame_parted [.sl .shr (bl b)] H = some ⟨.tup [.agg [.int .i64 wd, .int .i64 m, .int .i64 e], .int .i64 0], H, false⟩) : CT n_frame_Next [.sl .shr (bl b)] H = some ⟨if (b.drop m).take 4 = sealB (sumA (b.take m)) then .tup [cpy ((b.take m).drop wd), .int .i64 e, .int .i64 0] else .tup [.nils, .int .i64 0, .int .i64 9], H, false⟩ := by
  have h1 : (0 : Int) ≤ m := by omega
  have h7 : (0 : Int) ≤ e := by omega
  have h2 : (m : Int) ≤ e := by omega
  have h3 : (e : Int) ≤ b.length := by omega
  have h4 : (m : Int) ≤ b.length := by omega
  have h5 : (0 : Int) ≤ wd := by omega
  have h6 : (wd : Int) ≤ m := by omega
  have hT1 : List.drop m (List.take e (bl b)) = bl ((b.drop m).take 4) := by
    rw [bl_take, bl_drop, List.drop_take, he]; congr 2; omega
  have hT2 : List.take m (bl b) = bl (b.take m) := bl_take _ _
  have hT3 : List.drop wd (bl (b.take m)) = bl ((b.take m).drop wd) := bl_drop _ _
  have S := adler_Sum (H := H) (b.take m) (by rw [List.length_take]; omega) (fun x hx => hby x (List.mem_of_mem_take hx))
  have Q := frame_sealed (H := H) (sumA (b.take m))
  have E := bytes_Equal (H := H) ((b.drop m).take 4) (sealB (sumA (b.take m))) (by rw [List.length_take]; omega)
  obtain ⟨r, hC, hT⟩ := bytes_Clone (H := H) ((b.take m).drop wd) (by rw [List.length_drop, List.length_take]; omega)
  by_cases hq : (b.drop m).take 4 = sealB (sumA (b.take m))
  · rw [if_pos hq]
    unfold cpy
    have hd : decide (List.take 4 (List.drop m b) = sealB (sumA (List.take m b))) = true := decide_eq_true hq
    rw [hd] at E
    by_cases h0 : ((b.take m).drop wd).length = 0
    · rw [if_pos h0] at hT ⊢
      refine callT_of rfl tab_frame_Next ?_
      simp (maxSteps := 4000000) only [↓set16, ↓sl16, zaa, zab, zac, zad, zz0, zz1, zz2, zz3, zz4, zae, zaf, zag, zah, zai, zaj, zak, zal, zam, zan, zao, zap, zaq, zar, zas, zat, zau, zav, zaw, zax, zay, zaz, zba, zbb, zbc, zbd, zbe, zbf, zbg, zbh, zbi, zbj, zbk, zbl, zbm, zbn, zbo, zbp, zbq, zbr, zbs, zbt, zbu, zbv, zbw, zbx, zby, zbz, zca, zcb, zcc, zcd, zce, zcf, zcg, zch, zci, zcj, zck, zcl, zcm, zcn, ne_eq, zco, zcp, zcq, zcr, zcs, List.replicate, zct, zcu, zcv, zcw, zcx, zcy, zcz, zda, zdb, zdc, zdd, zde, zdf, zdg, zdh, zdi, killT, delta, tak, ev, ad, taks, evs, nL, getH, pack, arith, callD, Nat.reduceAdd, Nat.reduceSub, Nat.reduceMul, Nat.reduceLeDiff, Nat.reduceEqDiff, Nat.reduceBEq, Nat.reduceBNe, Nat.reduceLT, Nat.reduceDiv, Int.reduceNeg, Int.reduceLT, Int.reduceLE, Int.reduceEq, Int.reduceNe, Int.reduceAdd, Int.reduceSub, Int.reduceMul, Int.reduceToNat, Int.reduceBEq, Int.reduceBNe, fillP, fillE, okE, okW, bound, elS, srcS, Fin, finish, ress, resOf, one, keeps, ↓reduceIte, Dl.ap, Dl.slots, okD, isLp, zeros, reduceCtorEq, zdj, zdk, tf_frame_Next, P, bl_len, bl_okW, h1, h2, h3, h4, h5, h6, h7, Int.toNat_natCast, hT1, hT2, hT3, S, Q, E, hC, hT]
    · rw [if_neg h0] at hT ⊢
      refine callT_of rfl tab_frame_Next ?_
      simp (maxSteps := 4000000) only [↓set16, ↓sl16, zaa, zab, zac, zad, zz0, zz1, zz2, zz3, zz4, zae, zaf, zag, zah, zai, zaj, zak, zal, zam, zan, zao, zap, zaq, zar, zas, zat, zau, zav, zaw, zax, zay, zaz, zba, zbb, zbc, zbd, zbe, zbf, zbg, zbh, zbi, zbj, zbk, zbl, zbm, zbn, zbo, zbp, zbq, zbr, zbs, zbt, zbu, zbv, zbw, zbx, zby, zbz, zca, zcb, zcc, zcd, zce, zcf, zcg, zch, zci, zcj, zck, zcl, zcm, zcn, ne_eq, zco, zcp, zcq, zcr, zcs, List.replicate, zct, zcu, zcv, zcw, zcx, zcy, zcz, zda, zdb, zdc, zdd, zde, zdf, zdg, zdh, zdi, killT, delta, tak, ev, ad, taks, evs, nL, getH, pack, arith, callD, Nat.reduceAdd, Nat.reduceSub, Nat.reduceMul, Nat.reduceLeDiff, Nat.reduceEqDiff, Nat.reduceBEq, Nat.reduceBNe, Nat.reduceLT, Nat.reduceDiv, Int.reduceNeg, Int.reduceLT, Int.reduceLE, Int.reduceEq, Int.reduceNe, Int.reduceAdd, Int.reduceSub, Int.reduceMul, Int.reduceToNat, Int.reduceBEq, Int.reduceBNe, fillP, fillE, okE, okW, bound, elS, srcS, Fin, finish, ress, resOf, one, keeps, ↓reduceIte, Dl.ap, Dl.slots, okD, isLp, zeros, reduceCtorEq, zdj, zdk, tf_frame_Next, P, bl_len, bl_okW, h1, h2, h3, h4, h5, h6, h7, Int.toNat_natCast, hT1, hT2, hT3, S, Q, E, hC, hT]
  · rw [if_neg hq]
    have hd : decide (List.take 4 (List.drop m b) = sealB (sumA (List.take m b))) = false := decide_eq_false hq
    rw [hd] at E
    refine callT_of rfl tab_frame_Next ?_
    simp (maxSteps := 4000000) only [↓set16, ↓sl16, zaa, zab, zac, zad, zz0, zz1, zz2, zz3, zz4, zae, zaf, zag, zah, zai, zaj, zak, zal, zam, zan, zao, zap, zaq, zar, zas, zat, zau, zav, zaw, zax, zay, zaz, zba, zbb, zbc, zbd, zbe, zbf, zbg, zbh, zbi, zbj, zbk, zbl, zbm, zbn, zbo, zbp, zbq, zbr, zbs, zbt, zbu, zbv, zbw, zbx, zby, zbz, zca, zcb, zcc, zcd, zce, zcf, zcg, zch, zci, zcj, zck, zcl, zcm, zcn, ne_eq, zco, zcp, zcq, zcr, zcs, List.replicate, zct, zcu, zcv, zcw, zcx, zcy, zcz, zda, zdb, zdc, zdd, zde, zdf, zdg, zdh, zdi, killT, delta, tak, ev, ad, taks, evs, nL, getH, pack, arith, callD, Nat.reduceAdd, Nat.reduceSub, Nat.reduceMul, Nat.reduceLeDiff, Nat.reduceEqDiff, Nat.reduceBEq, Nat.reduceBNe, Nat.reduceLT, Nat.reduceDiv, Int.reduceNeg, Int.reduceLT, Int.reduceLE, Int.reduceEq, Int.reduceNe, Int.reduceAdd, Int.reduceSub, Int.reduceMul, Int.reduceToNat, Int.reduceBEq, Int.reduceBNe, fillP, fillE, okE, okW, bound, elS, srcS, Fin, finish, ress, resOf, one, keeps, ↓reduceIte, Dl.ap, Dl.slots, okD, isLp, zeros, reduceCtorEq, zdj, zdk, tf_frame_Next, P, bl_len, bl_okW, h1, h2, h3, h4, h5, h6, h7, Int.toNat_natCast, hT1, hT2, hT3, S, Q, E]
theorem rnext_err (b : List Int) (hb : b.length ≤ 4000) (hby : ∀ x ∈ b, 0 ≤ x ∧ x ≤ 255) (he : (rN 262144 (b, 0)).2.2 ≠ 0) : CT n_ref10_Next [.sl .shr (bl b)] H = some ⟨.tup [.nils, .int .i64 0, .int .i64 (rN 262144 (b, 0)).2.2], H, false⟩ := by
  have O := ref02_Open (H := H) b (by omega)
  have P0 := RR.open_ (H := H) b (by omega) hby
  obtain ⟨H1, P1, C1⟩ := P0.num 262144 (by decide)
  have hE := P1.err
  obtain ⟨x, rfl⟩ := P1.drop
  have hq : ((rN 262144 (b, 0)).2.2 != 0) = true := by simp [he]
  have ht := trim_in (fz := true) (v := .tup [.nils, .int .i64 0, .int .i64 (rN 262144 (b, 0)).2.2]) (h := H) (x := [x]) rfl rfl
  refine callT_of rfl tab_ref10_Next ?_
  simp (maxSteps := 4000000) only [↓set16, ↓sl16, zaa, zab, zac, zad, zz0, zz1, zz2, zz3, zz4, zae, zaf, zag, zah, zai, zaj, zak, zal, zam, zan, zao, zap, zaq, zar, zas, zat, zau, zav, zaw, zax, zay, zaz, zba, zbb, zbc, zbd, zbe, zbf, zbg, zbh, zbi, zbj, zbk, zbl, zbm, zbn, zbo, zbp, zbq, zbr, zbs, zbt, zbu, zbv, zbw, zbx, zby, zbz, zca, zcb, zcc, zcd, zce, zcf, zcg, zch, zci, zcj, zck, zcl, zcm, zcn, ne_eq, zco, zcp, zcq, zcr, zcs, List.replicate, zct, zcu, zcv, zcw, zcx, zcy, zcz, zda, zdb, zdc, zdd, zde, zdf, zdg, zdh, zdi, killT, delta, tak, ev, ad, taks, evs, nL, getH, pack, arith, callD, Nat.reduceAdd, Nat.reduceSub, Nat.reduceMul, Nat.reduceLeDiff, Nat.reduceEqDiff, Nat.reduceBEq, Nat.reduceBNe, Nat.reduceLT, Nat.reduceDiv, Int.reduceNeg, Int.reduceLT, Int.reduceLE, Int.reduceEq, Int.reduceNe, Int.reduceAdd, Int.reduceSub, Int.reduceMul, Int.reduceToNat, Int.reduceBEq, Int.reduceBNe, fillP, fillE, okE, okW, bound, elS, srcS, Fin, finish, ress, resOf, one, keeps, ↓reduceIte, Dl.ap, Dl.slots, okD, isLp, zeros, reduceCtorEq, zdj, zdk, tf_ref10_Next, O, C1, hE, hq, ht]
theorem rnext_short (b : List Int) (hb : b.length ≤ 4000) (hby : ∀ x ∈ b, 0 ≤ x ∧ x ≤ 255) (n wd : Nat) (hr : rdNum b 262144 = ((n : Int), (wd : Int), 0)) (hw : wd ≤ b.length) (hn : n ≤ 262144) (hs : (b.length : Int) < wd + n + 4) : CT n_ref10_Next [.sl .shr (bl b)] H = some ⟨.tup [.nils, .int .i64 0, .int .i64 4], H, false⟩ := by
  have e : rN 262144 (b, 0) = ((n : Int), (b.drop wd, 0)) := by unfold rN; simp only [if_true, hr, Int.toNat_natCast]
  have O := ref02_Open (H := H) b (by omega)
  have P0 := RR.open_ (H := H) b (by omega) hby
  obtain ⟨H1, P1, C1⟩ := P0.num 262144 (by decide)
  rw [e] at P1 C1
  simp only at P1 C1
  have hE := P1.err
  have hL := P1.left
  obtain ⟨x, rfl⟩ := P1.drop
  have w1 : IntKind.i64.wrap ((n : Int) + 4) = n + 4 := IntWalk.i64_in _ (by omega)
  have hq : ((b.drop wd).length : Int) < n + 4 := by rw [List.length_drop]; omega
  have ht := trim_in (fz := true) (v := .tup [.nils, .int .i64 0, .int .i64 4]) (h := H) (x := [x]) rfl rfl
  refine callT_of rfl tab_ref10_Next ?_
  simp (maxSteps := 4000000) only [↓set16, ↓sl16, zaa, zab, zac, zad, zz0, zz1, zz2, zz3, zz4, zae, zaf, zag, zah, zai, zaj, zak, zal, zam, zan, zao, zap, zaq, zar, zas, zat, zau, zav, zaw, zax, zay, zaz, zba, zbb, zbc, zbd, zbe, zbf, zbg, zbh, zbi, zbj, zbk, zbl, zbm, zbn, zbo, zbp, zbq, zbr, zbs, zbt, zbu, zbv, zbw, zbx, zby, zbz, zca, zcb, zcc, zcd, zce, zcf, zcg, zch, zci, zcj, zck, zcl, zcm, zcn, ne_eq, zco, zcp, zcq, zcr, zcs, List.replicate, zct, zcu, zcv, zcw, zcx, zcy, zcz, zda, zdb, zdc, zdd, zde, zdf, zdg, zdh, zdi, killT, delta, tak, ev, ad, taks, evs, nL, getH, pack, arith, callD, Nat.reduceAdd, Nat.reduceSub, Nat.reduceMul, Nat.reduceLeDiff, Nat.reduceEqDiff, Nat.reduceBEq, Nat.reduceBNe, Nat.reduceLT, Nat.reduceDiv, Int.reduceNeg, Int.reduceLT, Int.reduceLE, Int.reduceEq, Int.reduceNe, Int.reduceAdd, Int.reduceSub, Int.reduceMul, Int.reduceToNat, Int.reduceBEq, Int.reduceBNe, fillP, fillE, okE, okW, bound, elS, srcS, Fin, finish, ress, resOf, one, keeps, ↓reduceIte, Dl.ap, Dl.slots, okD, isLp, zeros, reduceCtorEq, zdj, zdk, tf_ref10_Next, O, C1, hE, hL, bne_self_eq_false, w1, hq, ht]
theorem rnext (b : List Int) (hb : b.length ≤ 4000) (hby : ∀ x ∈ b, 0 ≤ x ∧ x ≤ 255) (n wd m e : Nat) (hr : rdNum b 262144 = ((n : Int), (wd : Int), 0)) (hnB : numB n = b.take wd) (hm : m = wd + n) (he : e = m + 4) (hl : e ≤ b.length) : CT n_ref10_Next [.sl .shr (bl b)] H = some ⟨if (b.drop m).take 4 = sealB (sumA (b.take m)) then .tup [.sl (.own 1 false) (bl ((b.take m).drop wd)), .int .i64 e, .int .i64 0] else .tup [.nils, .int .i64 0, .int .i64 9], H, false⟩ := by
  have hwl : (b.take wd).length = wd := by rw [List.length_take]; omega
  have e0 : rN 262144 (b, 0) = ((n : Int), (b.drop wd, 0)) := by unfold rN; simp only [if_true, hr, Int.toNat_natCast]
  have O := ref02_Open (H := H) b (by omega)
  have P0 := RR.open_ (H := H) b (by omega) hby
  obtain ⟨H1, P1, C1⟩ := P0.num 262144 (by decide)
  rw [e0] at P1 C1
  simp only at P1 C1
  have hE := P1.err
  have hL := P1.left
  obtain ⟨c, hlv, hc⟩ := P1.live
  obtain ⟨x, rfl⟩ := P1.drop
  have hcl : ((b.take m).drop wd).length = n := by rw [List.length_drop, List.length_take]; omega
  have w1 : IntKind.i64.wrap ((n : Int) + 4) = n + 4 := IntWalk.i64_in _ (by omega)
  have hq : ¬ ((b.drop wd).length : Int) < n + 4 := by rw [List.length_drop]; omega
  have h0 : (0 : Int) ≤ n := by omega
  have h1 : (n : Int) ≤ (b.drop wd).length := by rw [List.length_drop]; omega
  have hT1 : List.take n (bl (b.drop wd)) = bl ((b.take m).drop wd) := by
    rw [bl_take, List.drop_take, hm]; congr 2; omega
  have hby2 : ∀ x ∈ (b.take m).drop wd, 0 ≤ x ∧ x ≤ 255 := fun x hx => hby x (List.mem_of_mem_take (List.mem_of_mem_drop hx))
  have hnb : ∀ x ∈ numB ((((b.take m).drop wd).length : Nat) : Int), 0 ≤ x ∧ x ≤ 255 := by
    rw [hcl, hnB]; exact fun x hx => hby x (List.mem_of_mem_take hx)
  have S := ref10_Seal (H := H ++ [x]) ((b.take m).drop wd) (by rw [hcl]; omega) hby2 hnb
  have hf : frm ((b.take m).drop wd) = b.take m ++ sealB (sumA (b.take m)) := by
    have e3 : numB ((((b.take m).drop wd).length : Nat) : Int) ++ (b.take m).drop wd = b.take m := by
      rw [hcl, hnB]
      have : (b.take m).take wd = b.take wd := by rw [List.take_take]; congr 1; omega
      rw [← this, List.take_append_drop]
    unfold frm; rw [e3]
  rw [hf] at S
  have hfl : (b.take m ++ sealB (sumA (b.take m))).length = e := by
    rw [List.length_append, List.length_take, he]; simp only [sealB, List.length_cons, List.length_nil]; omega
  have h2 : (0 : Int) ≤ e := by omega
  have h3 : (e : Int) ≤ b.length := by omega
  have hT2 : List.take e (bl b) = bl (b.take e) := bl_take _ _
  have sby : ∀ s x, x ∈ sealB s → 0 ≤ x ∧ x ≤ 255 := by
    intro s x hx
    simp only [sealB, List.mem_cons, List.not_mem_nil, or_false, IntKind.wrap_u8] at hx
    omega
  have hI := strOf_inj (a := b.take m ++ sealB (sumA (b.take m))) (b := b.take e) (by
    intro x hx
    rcases List.mem_append.1 hx with h | h
    · exact hby x (List.mem_of_mem_take h)
    · exact sby _ x h) (fun x hx => hby x (List.mem_of_mem_take hx))
  have hte : b.take e = b.take m ++ (b.drop m).take 4 := by
    rw [he, List.take_add]
  have hI2 : (b.take m ++ sealB (sumA (b.take m)) = b.take e) = ((b.drop m).take 4 = sealB (sumA (b.take m))) := by
    rw [hte, List.append_cancel_left_eq]; exact propext eq_comm
  rw [hI2] at hI
  unfold strOf at hI
  have hrm : ((b.take m).drop wd).length ≤ roomB := by rw [hcl]; unfold roomB; omega
  have ht1 := trim_in (fz := true) (v := .tup [.nils, .int .i64 0, .int .i64 9]) (h := H) (x := [x]) rfl rfl
  have ht2 := trim_in (fz := true) (v := .tup [.sl (.own 1 false) (bl ((b.take m).drop wd)), .int .i64 e, .int .i64 0]) (h := H) (x := [x]) rfl (by
    have := bl_lts H.length ((b.take m).drop wd)
    simp only [TV.lt, TV.lts, this, Bool.and_self])
  generalize hF : b.take m ++ sealB (sumA (b.take m)) = F at *
  by_cases hs : (b.drop m).take 4 = sealB (sumA (b.take m))
  · rw [if_pos hs]
    refine callT_of rfl tab_ref10_Next ?_
    simp (maxSteps := 4000000) only [↓set16, ↓sl16, zaa, zab, zac, zad, zz0, zz1, zz2, zz3, zz4, zae, zaf, zag, zah, zai, zaj, zak, zal, zam, zan, zao, zap, zaq, zar, zas, zat, zau, zav, zaw, zax, zay, zaz, zba, zbb, zbc, zbd, zbe, zbf, zbg, zbh, zbi, zbj, zbk, zbl, zbm, zbn, zbo, zbp, zbq, zbr, zbs, zbt, zbu, zbv, zbw, zbx, zby, zbz, zca, zcb, zcc, zcd, zce, zcf, zcg, zch, zci, zcj, zck, zcl, zcm, zcn, ne_eq, zco, zcp, zcq, zcr, zcs, List.replicate, zct, zcu, zcv, zcw, zcx, zcy, zcz, zda, zdb, zdc, zdd, zde, zdf, zdg, zdh, zdi, killT, delta, tak, ev, ad, taks, evs, nL, getH, pack, arith, callD, Nat.reduceAdd, Nat.reduceSub, Nat.reduceMul, Nat.reduceLeDiff, Nat.reduceEqDiff, Nat.reduceBEq, Nat.reduceBNe, Nat.reduceLT, Nat.reduceDiv, Int.reduceNeg, Int.reduceLT, Int.reduceLE, Int.reduceEq, Int.reduceNe, Int.reduceAdd, Int.reduceSub, Int.reduceMul, Int.reduceToNat, Int.reduceBEq, Int.reduceBNe, fillP, fillE, okE, okW, bound, elS, srcS, Fin, finish, ress, resOf, one, keeps, ↓reduceIte, Dl.ap, Dl.slots, okD, isLp, zeros, reduceCtorEq, zdj, zdk, tf_ref10_Next, O, C1, hE, hL, bne_self_eq_false, w1, hq, hlv, hc, bl_len, bl_okW, h0, h1, h2, h3, Int.toNat_natCast, hT1, hT2, S, hfl, bl_byte, hI, hs, hrm, ht1, ht2]
  · rw [if_neg hs]
    refine callT_of rfl tab_ref10_Next ?_
    simp (maxSteps := 4000000) only [↓set16, ↓sl16, zaa, zab, zac, zad, zz0, zz1, zz2, zz3, zz4, zae, zaf, zag, zah, zai, zaj, zak, zal, zam, zan, zao, zap, zaq, zar, zas, zat, zau, zav, zaw, zax, zay, zaz, zba, zbb, zbc, zbd, zbe, zbf, zbg, zbh, zbi, zbj, zbk, zbl, zbm, zbn, zbo, zbp, zbq, zbr, zbs, zbt, zbu, zbv, zbw, zbx, zby, zbz, zca, zcb, zcc, zcd, zce, zcf, zcg, zch, zci, zcj, zck, zcl, zcm, zcn, ne_eq, zco, zcp, zcq, zcr, zcs, List.replicate, zct, zcu, zcv, zcw, zcx, zcy, zcz, zda, zdb, zdc, zdd, zde, zdf, zdg, zdh, zdi, killT, delta, tak, ev, ad, taks, evs, nL, getH, pack, arith, callD, Nat.reduceAdd, Nat.reduceSub, Nat.reduceMul, Nat.reduceLeDiff, Nat.reduceEqDiff, Nat.reduceBEq, Nat.reduceBNe, Nat.reduceLT, Nat.reduceDiv, Int.reduceNeg, Int.reduceLT, Int.reduceLE, Int.reduceEq, Int.reduceNe, Int.reduceAdd, Int.reduceSub, Int.reduceMul, Int.reduceToNat, Int.reduceBEq, Int.reduceBNe, fillP, fillE, okE, okW, bound, elS, srcS, Fin, finish, ress, resOf, one, keeps, ↓reduceIte, Dl.ap, Dl.slots, okD, isLp, zeros, reduceCtorEq, zdj, zdk, tf_ref10_Next, O, C1, hE, hL, bne_self_eq_false, w1, hq, hlv, hc, bl_len, bl_okW, h0, h1, h2, h3, Int.toNat_natCast, hT1, hT2, S, hfl, bl_byte, hI, hs, hrm, ht1, ht2]
theorem bl_of (b : List UInt8) : (TV.sl .shr (b.map fun c => TV.int .u8 c.toNat)) = .sl .shr (bl (b.map fun c => (c.toNat : Int))) := by
  simp [bl, Function.comp_def]
theorem bl_by (b : List UInt8) : ∀ x ∈ b.map (fun c => (c.toNat : Int)), 0 ≤ x ∧ x ≤ 255 := by
  intro x hx
  obtain ⟨c, _, rfl⟩ := List.mem_map.1 hx
  have := c.toNat_lt
  omega
theorem awake10_ok : CT n_law10_awake [] [] = some ⟨.bool true, [], false⟩ := (callT_iff tab ext).2 ⟨60, by kernel_rfl⟩
theorem fnext (b : List Int) (hby : ∀ x ∈ b, 0 ≤ x ∧ x ≤ 255) : CT n_law10_FrameNext [.sl .shr (bl b)] [] = some ⟨.bool true, [], false⟩ := by
  by_cases hb : (4000 : Int) < b.length
  · refine callT_of rfl tab_law10_FrameNext ?_
    simp (maxSteps := 4000000) only [↓set16, ↓sl16, zaa, zab, zac, zad, zz0, zz1, zz2, zz3, zz4, zae, zaf, zag, zah, zai, zaj, zak, zal, zam, zan, zao, zap, zaq, zar, zas, zat, zau, zav, zaw, zax, zay, zaz, zba, zbb, zbc, zbd, zbe, zbf, zbg, zbh, zbi, zbj, zbk, zbl, zbm, zbn, zbo, zbp, zbq, zbr, zbs, zbt, zbu, zbv, zbw, zbx, zby, zbz, zca, zcb, zcc, zcd, zce, zcf, zcg, zch, zci, zcj, zck, zcl, zcm, zcn, ne_eq, zco, zcp, zcq, zcr, zcs, List.replicate, zct, zcu, zcv, zcw, zcx, zcy, zcz, zda, zdb, zdc, zdd, zde, zdf, zdg, zdh, zdi, killT, delta, tak, ev, ad, taks, evs, nL, getH, pack, arith, callD, Nat.reduceAdd, Nat.reduceSub, Nat.reduceMul, Nat.reduceLeDiff, Nat.reduceEqDiff, Nat.reduceBEq, Nat.reduceBNe, Nat.reduceLT, Nat.reduceDiv, Int.reduceNeg, Int.reduceLT, Int.reduceLE, Int.reduceEq, Int.reduceNe, Int.reduceAdd, Int.reduceSub, Int.reduceMul, Int.reduceToNat, Int.reduceBEq, Int.reduceBNe, fillP, fillE, okE, okW, bound, elS, srcS, Fin, finish, ress, resOf, one, keeps, ↓reduceIte, Dl.ap, Dl.slots, okD, isLp, zeros, reduceCtorEq, zdj, zdk, tf_law10_FrameNext, bl_len, gt_iff_lt, hb, awake10_ok]
  have hl : b.length ≤ 4000 := by omega
  have E0 := bytes_Equal (H := []) [] [] (by simp)
  have nb : bl [] = [] := rfl
  have hd0 : decide (([] : List Int) = []) = true := rfl
  rw [nb, hd0] at E0
  by_cases he : (rN 262144 (b, 0)).2.2 = 0
  · have he2 : (rdNum b 262144).2.2 = 0 := by
      by_cases h : (rdNum b 262144).2.2 = 0
      · exact h
      · exfalso
        unfold rN at he
        simp only [if_true, h, if_false] at he
    obtain ⟨n, wd, hr, h1, h2, h3, h4, h5, h6⟩ := rd_ok b hby 262144 he2
    have hw : (numB n).length = wd := by rw [h4, List.length_take]; omega
    have P := parted (H := []) b hl hby n wd hr hw h2 (by omega)
    by_cases hs : (b.length : Int) < wd + n + 4
    · rw [if_pos hs] at P
      have A := next_short (H := []) b P
      have B := rnext_short (H := []) b hl hby n wd hr h3 (by omega) hs
      refine callT_of rfl tab_law10_FrameNext ?_
      simp (maxSteps := 4000000) only [↓set16, ↓sl16, zaa, zab, zac, zad, zz0, zz1, zz2, zz3, zz4, zae, zaf, zag, zah, zai, zaj, zak, zal, zam, zan, zao, zap, zaq, zar, zas, zat, zau, zav, zaw, zax, zay, zaz, zba, zbb, zbc, zbd, zbe, zbf, zbg, zbh, zbi, zbj, zbk, zbl, zbm, zbn, zbo, zbp, zbq, zbr, zbs, zbt, zbu, zbv, zbw, zbx, zby, zbz, zca, zcb, zcc, zcd, zce, zcf, zcg, zch, zci, zcj, zck, zcl, zcm, zcn, ne_eq, zco, zcp, zcq, zcr, zcs, List.replicate, zct, zcu, zcv, zcw, zcx, zcy, zcz, zda, zdb, zdc, zdd, zde, zdf, zdg, zdh, zdi, killT, delta, tak, ev, ad, taks, evs, nL, getH, pack, arith, callD, Nat.reduceAdd, Nat.reduceSub, Nat.reduceMul, Nat.reduceLeDiff, Nat.reduceEqDiff, Nat.reduceBEq, Nat.reduceBNe, Nat.reduceLT, Nat.reduceDiv, Int.reduceNeg, Int.reduceLT, Int.reduceLE, Int.reduceEq, Int.reduceNe, Int.reduceAdd, Int.reduceSub, Int.reduceMul, Int.reduceToNat, Int.reduceBEq, Int.reduceBNe, fillP, fillE, okE, okW, bound, elS, srcS, Fin, finish, ress, resOf, one, keeps, ↓reduceIte, Dl.ap, Dl.slots, okD, isLp, zeros, reduceCtorEq, zdj, zdk, tf_law10_FrameNext, bl_len, gt_iff_lt, hb, A, B, E0, BEq.rfl, beq_self_eq_true, awake10_ok]
    · rw [if_neg hs] at P
      have P' : CT n_frame_parted [.sl .shr (bl b)] [] = some ⟨.tup [.agg [.int .i64 wd, .int .i64 ((wd + n : Nat) : Int), .int .i64 ((wd + n + 4 : Nat) : Int)], .int .i64 0], [], false⟩ := by
        rw [P]; rfl
      have A := next (H := []) b hl hby wd (wd + n) (wd + n + 4) (by omega) rfl (by omega) P'
      have B := rnext (H := []) b hl hby n wd (wd + n) (wd + n + 4) hr h4 rfl rfl (by omega)
      generalize hc : (b.take (wd + n)).drop wd = c at *
      generalize he : wd + n + 4 = e at *
      by_cases hq : (b.drop (wd + n)).take 4 = sealB (sumA (b.take (wd + n)))
      · rw [if_pos hq] at A B
        have E := bytes_Equal (H := []) c c (by rw [← hc, List.length_drop, List.length_take]; omega)
        have hd : decide (c = c) = true := decide_eq_true rfl
        rw [hd] at E
        unfold cpy at A
        by_cases h0 : c.length = 0
        · rw [if_pos h0] at A
          have hn := List.eq_nil_of_length_eq_zero h0
          rw [hn] at B
          rw [nb] at B
          refine callT_of rfl tab_law10_FrameNext ?_
          simp (maxSteps := 4000000) only [↓set16, ↓sl16, zaa, zab, zac, zad, zz0, zz1, zz2, zz3, zz4, zae, zaf, zag, zah, zai, zaj, zak, zal, zam, zan, zao, zap, zaq, zar, zas, zat, zau, zav, zaw, zax, zay, zaz, zba, zbb, zbc, zbd, zbe, zbf, zbg, zbh, zbi, zbj, zbk, zbl, zbm, zbn, zbo, zbp, zbq, zbr, zbs, zbt, zbu, zbv, zbw, zbx, zby, zbz, zca, zcb, zcc, zcd, zce, zcf, zcg, zch, zci, zcj, zck, zcl, zcm, zcn, ne_eq, zco, zcp, zcq, zcr, zcs, List.replicate, zct, zcu, zcv, zcw, zcx, zcy, zcz, zda, zdb, zdc, zdd, zde, zdf, zdg, zdh, zdi, killT, delta, tak, ev, ad, taks, evs, nL, getH, pack, arith, callD, Nat.reduceAdd, Nat.reduceSub, Nat.reduceMul, Nat.reduceLeDiff, Nat.reduceEqDiff, Nat.reduceBEq, Nat.reduceBNe, Nat.reduceLT, Nat.reduceDiv, Int.reduceNeg, Int.reduceLT, Int.reduceLE, Int.reduceEq, Int.reduceNe, Int.reduceAdd, Int.reduceSub, Int.reduceMul, Int.reduceToNat, Int.reduceBEq, Int.reduceBNe, fillP, fillE, okE, okW, bound, elS, srcS, Fin, finish, ress, resOf, one, keeps, ↓reduceIte, Dl.ap, Dl.slots, okD, isLp, zeros, reduceCtorEq, zdj, zdk, tf_law10_FrameNext, bl_len, gt_iff_lt, hb, A, B, E0, BEq.rfl, beq_self_eq_true, awake10_ok]
        · rw [if_neg h0] at A
          refine callT_of rfl tab_law10_FrameNext ?_
          simp (maxSteps := 4000000) only [↓set16, ↓sl16, zaa, zab, zac, zad, zz0, zz1, zz2, zz3, zz4, zae, zaf, zag, zah, zai, zaj, zak, zal, zam, zan, zao, zap, zaq, zar, zas, zat, zau, zav, zaw, zax, zay, zaz, zba, zbb, zbc, zbd, zbe, zbf, zbg, zbh, zbi, zbj, zbk, zbl, zbm, zbn, zbo, zbp, zbq, zbr, zbs, zbt, zbu, zbv, zbw, zbx, zby, zbz, zca, zcb, zcc, zcd, zce, zcf, zcg, zch, zci, zcj, zck, zcl, zcm, zcn, ne_eq, zco, zcp, zcq, zcr, zcs, List.replicate, zct, zcu, zcv, zcw, zcx, zcy, zcz, zda, zdb, zdc, zdd, zde, zdf, zdg, zdh, zdi, killT, delta, tak, ev, ad, taks, evs, nL, getH, pack, arith, callD, Nat.reduceAdd, Nat.reduceSub, Nat.reduceMul, Nat.reduceLeDiff, Nat.reduceEqDiff, Nat.reduceBEq, Nat.reduceBNe, Nat.reduceLT, Nat.reduceDiv, Int.reduceNeg, Int.reduceLT, Int.reduceLE, Int.reduceEq, Int.reduceNe, Int.reduceAdd, Int.reduceSub, Int.reduceMul, Int.reduceToNat, Int.reduceBEq, Int.reduceBNe, fillP, fillE, okE, okW, bound, elS, srcS, Fin, finish, ress, resOf, one, keeps, ↓reduceIte, Dl.ap, Dl.slots, okD, isLp, zeros, reduceCtorEq, zdj, zdk, tf_law10_FrameNext, bl_len, gt_iff_lt, hb, A, B, E, BEq.rfl, beq_self_eq_true, awake10_ok]
      · rw [if_neg hq] at A B
        refine callT_of rfl tab_law10_FrameNext ?_
        simp (maxSteps := 4000000) only [↓set16, ↓sl16, zaa, zab, zac, zad, zz0, zz1, zz2, zz3, zz4, zae, zaf, zag, zah, zai, zaj, zak, zal, zam, zan, zao, zap, zaq, zar, zas, zat, zau, zav, zaw, zax, zay, zaz, zba, zbb, zbc, zbd, zbe, zbf, zbg, zbh, zbi, zbj, zbk, zbl, zbm, zbn, zbo, zbp, zbq, zbr, zbs, zbt, zbu, zbv, zbw, zbx, zby, zbz, zca, zcb, zcc, zcd, zce, zcf, zcg, zch, zci, zcj, zck, zcl, zcm, zcn, ne_eq, zco, zcp, zcq, zcr, zcs, List.replicate, zct, zcu, zcv, zcw, zcx, zcy, zcz, zda, zdb, zdc, zdd, zde, zdf, zdg, zdh, zdi, killT, delta, tak, ev, ad, taks, evs, nL, getH, pack, arith, callD, Nat.reduceAdd, Nat.reduceSub, Nat.reduceMul, Nat.reduceLeDiff, Nat.reduceEqDiff, Nat.reduceBEq, Nat.reduceBNe, Nat.reduceLT, Nat.reduceDiv, Int.reduceNeg, Int.reduceLT, Int.reduceLE, Int.reduceEq, Int.reduceNe, Int.reduceAdd, Int.reduceSub, Int.reduceMul, Int.reduceToNat, Int.reduceBEq, Int.reduceBNe, fillP, fillE, okE, okW, bound, elS, srcS, Fin, finish, ress, resOf, one, keeps, ↓reduceIte, Dl.ap, Dl.slots, okD, isLp, zeros, reduceCtorEq, zdj, zdk, tf_law10_FrameNext, bl_len, gt_iff_lt, hb, A, B, E0, BEq.rfl, beq_self_eq_true, awake10_ok]
  · have A := next_err (H := []) b hl hby he
    have B := rnext_err (H := []) b hl hby he
    refine callT_of rfl tab_law10_FrameNext ?_
    simp (maxSteps := 4000000) only [↓set16, ↓sl16, zaa, zab, zac, zad, zz0, zz1, zz2, zz3, zz4, zae, zaf, zag, zah, zai, zaj, zak, zal, zam, zan, zao, zap, zaq, zar, zas, zat, zau, zav, zaw, zax, zay, zaz, zba, zbb, zbc, zbd, zbe, zbf, zbg, zbh, zbi, zbj, zbk, zbl, zbm, zbn, zbo, zbp, zbq, zbr, zbs, zbt, zbu, zbv, zbw, zbx, zby, zbz, zca, zcb, zcc, zcd, zce, zcf, zcg, zch, zci, zcj, zck, zcl, zcm, zcn, ne_eq, zco, zcp, zcq, zcr, zcs, List.replicate, zct, zcu, zcv, zcw, zcx, zcy, zcz, zda, zdb, zdc, zdd, zde, zdf, zdg, zdh, zdi, killT, delta, tak, ev, ad, taks, evs, nL, getH, pack, arith, callD, Nat.reduceAdd, Nat.reduceSub, Nat.reduceMul, Nat.reduceLeDiff, Nat.reduceEqDiff, Nat.reduceBEq, Nat.reduceBNe, Nat.reduceLT, Nat.reduceDiv, Int.reduceNeg, Int.reduceLT, Int.reduceLE, Int.reduceEq, Int.reduceNe, Int.reduceAdd, Int.reduceSub, Int.reduceMul, Int.reduceToNat, Int.reduceBEq, Int.reduceBNe, fillP, fillE, okE, okW, bound, elS, srcS, Fin, finish, ress, resOf, one, keeps, ↓reduceIte, Dl.ap, Dl.slots, okD, isLp, zeros, reduceCtorEq, zdj, zdk, tf_law10_FrameNext, bl_len, gt_iff_lt, hb, A, B, E0, BEq.rfl, beq_self_eq_true, awake10_ok]
end Go.T
