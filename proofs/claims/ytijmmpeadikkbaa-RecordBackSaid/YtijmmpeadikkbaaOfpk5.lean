/- What the document's reader answers. -/
import Derived.Test.YtijmmpeadikkbaaOfpk4
set_option linter.unusedVariables false
set_option linter.unusedSimpArgs false
set_option maxRecDepth 10000
set_option maxHeartbeats 1000000
namespace Go.T
attribute [local irreducible] Run Back RS Ap
variable {H0 H : Heap} {i : Nat} {c : TV} {b : List Int}
theorem rf_Fail {x : Int} (hl : live H i = some [c, .int .i64 0]) (hx : x ≠ 0) : CT n_ref02_Reader_Fail [.ptr i 0, .int .i64 x] H = some ⟨.tup [], H.set i [.sl .shr [], .int .i64 x], false⟩ := by
  have hi := live_lt hl
  have hg := getD_live hl
  have hb : (x != 0) = true := by simp [hx]
  refine callT_of rfl tab_ref02_Reader_Fail ?_
  simp (maxSteps := 4000000) only [↓set16, ↓sl16, zaa, zab, zac, zad, zz0, zz1, zz2, zz3, zz4, zae, zaf, zag, zah, zai, zaj, zak, zal, zam, zan, zao, zap, zaq, zar, zas, zat, zau, zav, zaw, zax, zay, zaz, zba, zbb, zbc, zbd, zbe, zbf, zbg, zbh, zbi, zbj, zbk, zbl, zbm, zbn, zbo, zbp, zbq, zbr, zbs, zbt, zbu, zbv, zbw, zbx, zby, zbz, zca, zcb, zcc, zcd, zce, zcf, zcg, zch, zci, zcj, zck, zcl, zcm, zcn, ne_eq, zco, zcp, zcq, zcr, zcs, List.replicate, zct, zcu, zcv, zcw, zcx, zcy, zcz, zda, zdb, zdc, zdd, zde, zdf, zdg, zdh, zdi, killT, delta, tak, ev, ad, taks, evs, nL, getH, pack, arith, callD, Nat.reduceAdd, Nat.reduceSub, Nat.reduceMul, Nat.reduceLeDiff, Nat.reduceEqDiff, Nat.reduceBEq, Nat.reduceBNe, Nat.reduceLT, Nat.reduceDiv, Int.reduceNeg, Int.reduceLT, Int.reduceLE, Int.reduceEq, Int.reduceNe, Int.reduceAdd, Int.reduceSub, Int.reduceMul, Int.reduceToNat, Int.reduceBEq, Int.reduceBNe, fillP, fillE, okE, okW, bound, elS, srcS, Fin, finish, ress, resOf, one, keeps, ↓reduceIte, Dl.ap, Dl.slots, okD, isLp, zeros, reduceCtorEq, zdj, zdk, tf_ref02_Reader_Fail, jn_ref02_Reader_Fail_1, hl, hb, live_set2 hi, hg, List.set_set, lts_i, TV.lts, TV.lt, BEq.rfl]
theorem rf_Fail_no {e x : Int} (hl : live H i = some [.sl .shr [], .int .i64 e]) (he : e ≠ 0) : CT n_ref02_Reader_Fail [.ptr i 0, .int .i64 x] H = some ⟨.tup [], H, false⟩ := by
  have hi := live_lt hl
  have hg := getD_live hl
  have hb : (e == 0) = false := by simp [he]
  have hb2 : (e != 0) = true := by simp [he]
  have hs := set_same hl
  refine callT_of rfl tab_ref02_Reader_Fail ?_
  simp (maxSteps := 4000000) only [↓set16, ↓sl16, zaa, zab, zac, zad, zz0, zz1, zz2, zz3, zz4, zae, zaf, zag, zah, zai, zaj, zak, zal, zam, zan, zao, zap, zaq, zar, zas, zat, zau, zav, zaw, zax, zay, zaz, zba, zbb, zbc, zbd, zbe, zbf, zbg, zbh, zbi, zbj, zbk, zbl, zbm, zbn, zbo, zbp, zbq, zbr, zbs, zbt, zbu, zbv, zbw, zbx, zby, zbz, zca, zcb, zcc, zcd, zce, zcf, zcg, zch, zci, zcj, zck, zcl, zcm, zcn, ne_eq, zco, zcp, zcq, zcr, zcs, List.replicate, zct, zcu, zcv, zcw, zcx, zcy, zcz, zda, zdb, zdc, zdd, zde, zdf, zdg, zdh, zdi, killT, delta, tak, ev, ad, taks, evs, nL, getH, pack, arith, callD, Nat.reduceAdd, Nat.reduceSub, Nat.reduceMul, Nat.reduceLeDiff, Nat.reduceEqDiff, Nat.reduceBEq, Nat.reduceBNe, Nat.reduceLT, Nat.reduceDiv, Int.reduceNeg, Int.reduceLT, Int.reduceLE, Int.reduceEq, Int.reduceNe, Int.reduceAdd, Int.reduceSub, Int.reduceMul, Int.reduceToNat, Int.reduceBEq, Int.reduceBNe, fillP, fillE, okE, okW, bound, elS, srcS, Fin, finish, ress, resOf, one, keeps, ↓reduceIte, Dl.ap, Dl.slots, okD, isLp, zeros, reduceCtorEq, zdj, zdk, tf_ref02_Reader_Fail, jn_ref02_Reader_Fail_1, hl, hb, hb2, live_set2 hi, hg, List.set_set, lts_i, TV.lts, TV.lt, BEq.rfl, hs]
theorem rf_num_loop {m : Int} (hm : 0 ≤ m) (hl : live H i = some [c, .int .i64 0]) (hc : c.shr0 = .sl .shr (bl b)) (hb : b.length ≤ 4000000) (hby : ∀ x ∈ b, 0 ≤ x ∧ x ≤ 255) : ∀ (rest : List Int) (k : Nat), b.drop k = rest → k ≤ 8 → k ≤ b.length → numW 0 b = numW k rest →
    Run ⟨CT, true, [TRes.tmp 4], ⟨.int .i64 (rN m (b, 0)).1, H.set i [.sl .shr (bl (rN m (b, 0)).2.1), .int .i64 (rN m (b, 0)).2.2], false⟩⟩ [Fr.blk 0, Fr.seq ((TC.reg [{ d := some 4, op := .mv false (.c (.int IntKind.i64 0)), g := none }] []).seq TC.ret)] (.loop lp_ref02_Reader_Num_1) ⟨(.ptr i 0 :: .int .i64 m :: TV.tup [] :: TV.tup [] :: TV.junk :: .int .i64 (numV (b.take k)) :: .int .i64 k :: TV.junk :: TV.junk :: TV.junk :: TV.junk :: TV.junk :: TV.junk :: TV.junk :: TV.junk :: TV.junk :: TV.junk :: TV.junk :: TV.junk :: TV.junk :: TV.junk :: TV.junk :: TV.junk :: TV.junk :: TV.junk :: TV.junk :: TV.junk :: TV.junk :: TV.junk :: TV.junk :: TV.junk :: TV.junk :: TV.junk :: TV.junk :: TV.junk :: TV.junk :: TV.junk :: TV.junk :: TV.junk :: TV.junk :: TV.junk :: TV.junk :: TV.junk :: TV.junk :: TV.junk :: TV.junk :: TV.junk :: TV.junk :: TV.junk :: TV.junk :: TV.junk :: TV.junk :: TV.junk :: TV.junk :: TV.junk :: TV.junk :: TV.junk :: TV.junk :: TV.junk :: TV.junk :: TV.junk :: TV.junk :: TV.junk :: TV.junk :: TV.junk :: TV.junk :: TV.junk :: TV.junk :: TV.junk :: TV.junk :: TV.junk :: TV.junk :: TV.junk :: TV.junk :: TV.junk :: TV.junk :: TV.junk :: TV.junk :: TV.junk :: TV.junk :: TV.junk :: TV.junk :: TV.junk :: TV.junk :: TV.junk :: []), H, H.length, false⟩ := by
  have hi := live_lt hl
  have hF3 := rf_Fail (x := 3) hl (by decide)
  have hF4 := rf_Fail (x := 4) hl (by decide)
  have hL3 : live (H.set i [.sl .shr [], .int .i64 3]) i = some [.sl .shr [], .int .i64 3] := live_set2 hi
  have hL4 : live (H.set i [.sl .shr [], .int .i64 4]) i = some [.sl .shr [], .int .i64 4] := live_set2 hi
  have f3 : ((3 : Int) == 0) = false := rfl
  have f4 : ((4 : Int) == 0) = false := rfl
  have nb : bl [] = [] := rfl
  have hgd := getD_live hl
  have hE : ∀ x : Int, x ≠ 0 → numW 0 b = (x, 0) → rN m (b, 0) = (0, ([], x)) := by
    intro x hx h
    have hrd : rdNum b m = (0, 0, x) := by unfold rdNum; rw [h, if_neg hx]
    unfold rN; rw [hrd, if_pos rfl, if_neg hx]
  intro rest
  induction rest with
  | nil =>
    intro k hd hk8 hkl hW
    have hk : b.length ≤ k := by rw [List.drop_eq_nil_iff] at hd; exact hd
    have hq : (b.length : Int) ≤ k := by omega
    have hw1 : IntKind.i64.wrap ((k : Int) + 1) = ((k + 1 : Nat) : Int) := IntWalk.i64_in _ (by omega)
    rw [hE 4 (by decide) (by rw [hW]; rfl), Run_loop, nb]
    simp (maxSteps := 4000000) only [↓set16, ↓sl16, zaa, zab, zac, zad, zz0, zz1, zz2, zz3, zz4, zae, zaf, zag, zah, zai, zaj, zak, zal, zam, zan, zao, zap, zaq, zar, zas, zat, zau, zav, zaw, zax, zay, zaz, zba, zbb, zbc, zbd, zbe, zbf, zbg, zbh, zbi, zbj, zbk, zbl, zbm, zbn, zbo, zbp, zbq, zbr, zbs, zbt, zbu, zbv, zbw, zbx, zby, zbz, zca, zcb, zcc, zcd, zce, zcf, zcg, zch, zci, zcj, zck, zcl, zcm, zcn, ne_eq, zco, zcp, zcq, zcr, zcs, List.replicate, zct, zcu, zcv, zcw, zcx, zcy, zcz, zda, zdb, zdc, zdd, zde, zdf, zdg, zdh, zdi, killT, delta, tak, ev, ad, taks, evs, nL, getH, pack, arith, callD, Nat.reduceAdd, Nat.reduceSub, Nat.reduceMul, Nat.reduceLeDiff, Nat.reduceEqDiff, Nat.reduceBEq, Nat.reduceBNe, Nat.reduceLT, Nat.reduceDiv, Int.reduceNeg, Int.reduceLT, Int.reduceLE, Int.reduceEq, Int.reduceNe, Int.reduceAdd, Int.reduceSub, Int.reduceMul, Int.reduceToNat, Int.reduceBEq, Int.reduceBNe, fillP, fillE, okE, okW, bound, elS, srcS, Fin, finish, ress, resOf, one, keeps, ↓reduceIte, Dl.ap, Dl.slots, okD, isLp, zeros, reduceCtorEq, zdj, zdk, lp_ref02_Reader_Num_1, hl, hc, bl_len, ge_iff_le, hq, hF4, hw1, Run_loop, hL4, f4, BEq.rfl]
  | cons x rest ih =>
    intro k hd hk8 hkl hW
    have hlt : k < b.length := by
      rcases Nat.lt_or_ge k b.length with h | h
      · exact h
      · rw [List.drop_of_length_le h] at hd; cases hd
    have hx : b[k]? = some x := by
      have := congrArg (fun l => l[0]?) hd
      simpa [List.getElem?_drop] using this
    have hxb := hby x (List.mem_of_getElem? hx)
    have hd2 : b.drop (k + 1) = rest := by rw [← List.tail_drop, hd]; rfl
    have hq : ¬ (b.length : Int) ≤ k := by omega
    have hk0 : (0 : Int) ≤ k := by omega
    have hg := bl_get hx
    have hw1 : IntKind.i64.wrap ((k : Int) + 1) = ((k + 1 : Nat) : Int) := IntWalk.i64_in _ (by omega)
    have hn : numW k (x :: rest) = if (k = 0 ∧ x = 128) ∨ (k = 8 ∧ 128 ≤ x) then (3, 0) else if x < 128 then (0, (k : Int) + 1) else numW (k + 1) rest := rfl
    have hbd := numV_bd (b.take k)
    have hp := pow128 k hk8
    have htl : (b.take k).length = k := by rw [List.length_take]; omega
    rw [htl] at hbd
    have hxe : x.tmod 128 = x % 128 := Int.tmod_eq_emod_of_nonneg hxb.1
    have hv : numV (b.take (k + 1)) = numV (b.take k) * 128 + x % 128 := by
      obtain ⟨h1, h2⟩ := List.getElem?_eq_some_iff.1 hx
      rw [List.take_succ_eq_append_getElem h1, numV_snoc, h2]
    have a1 : IntKind.i64.wrap (numV (b.take k) * 128) = numV (b.take k) * 128 := IntWalk.i64_in _ (by omega)
    have a2 : IntKind.i64.wrap (x % 128) = x % 128 := IntWalk.i64_in _ (by omega)
    have a3 : IntKind.i64.wrap (numV (b.take k) * 128 + x % 128) = numV (b.take (k + 1)) := by rw [hv]; exact IntWalk.i64_in _ (by omega)
    have hgo : ¬ x < 128 → k ≠ 8 → numW 0 b = numW (k + 1) rest → _ := fun hx2 h8 hW2 => ih (k + 1) hd2 (by omega) (by omega) hW2
    -- a stop with a number
    have hstop : x < 128 → numW 0 b = (0, (k : Int) + 1) → rdNum b m = if m < numV (b.take (k + 1)) then (0, 0, 5) else (numV (b.take (k + 1)), (k : Int) + 1, 0) := by
      intro _ h
      have e : ((k : Int) + 1).toNat = k + 1 := by omega
      unfold rdNum; rw [h, if_pos rfl]; simp only [e]
    have q5 : (0 : Int) ≤ (k + 1 : Nat) := by omega
    have q6 : ((k + 1 : Nat) : Int) ≤ b.length := by omega
    have okw := bl_okW b
    have ebt : (bl b).take b.length = bl b := by rw [← bl_len b, List.take_length]
    have hLd : live (H.set i [.sl .shr (bl (b.drop (k + 1))), .int .i64 0]) i = some [.sl .shr (bl (b.drop (k + 1))), .int .i64 0] := live_set2 hi
    have hF5 := rf_Fail (x := 5) hLd (by decide)
    rw [List.set_set] at hF5
    rw [Run_loop]
    by_cases h0 : k = 0
    · have hb0 : ((k : Int) == 0) = true := by simp [h0]
      have hb8 : ((k : Int) == 8) = false := by simp [h0]
      have hg0 : (bl b)[0]? = some (.int .u8 x) := by rw [h0] at hg; exact hg
      by_cases hx1 : x = 128
      · have hb1 : (x == 128) = true := by simp [hx1]
        rw [hE 3 (by decide) (by rw [hW, hn, if_pos (.inl ⟨h0, hx1⟩)]), nb]
        simp (maxSteps := 4000000) only [↓set16, ↓sl16, zaa, zab, zac, zad, zz0, zz1, zz2, zz3, zz4, zae, zaf, zag, zah, zai, zaj, zak, zal, zam, zan, zao, zap, zaq, zar, zas, zat, zau, zav, zaw, zax, zay, zaz, zba, zbb, zbc, zbd, zbe, zbf, zbg, zbh, zbi, zbj, zbk, zbl, zbm, zbn, zbo, zbp, zbq, zbr, zbs, zbt, zbu, zbv, zbw, zbx, zby, zbz, zca, zcb, zcc, zcd, zce, zcf, zcg, zch, zci, zcj, zck, zcl, zcm, zcn, ne_eq, zco, zcp, zcq, zcr, zcs, List.replicate, zct, zcu, zcv, zcw, zcx, zcy, zcz, zda, zdb, zdc, zdd, zde, zdf, zdg, zdh, zdi, killT, delta, tak, ev, ad, taks, evs, nL, getH, pack, arith, callD, Nat.reduceAdd, Nat.reduceSub, Nat.reduceMul, Nat.reduceLeDiff, Nat.reduceEqDiff, Nat.reduceBEq, Nat.reduceBNe, Nat.reduceLT, Nat.reduceDiv, Int.reduceNeg, Int.reduceLT, Int.reduceLE, Int.reduceEq, Int.reduceNe, Int.reduceAdd, Int.reduceSub, Int.reduceMul, Int.reduceToNat, Int.reduceBEq, Int.reduceBNe, fillP, fillE, okE, okW, bound, elS, srcS, Fin, finish, ress, resOf, one, keeps, ↓reduceIte, Dl.ap, Dl.slots, okD, isLp, zeros, reduceCtorEq, zdj, zdk, lp_ref02_Reader_Num_1, hl, hc, bl_len, ge_iff_le, hq, hk0, hg0, hb0, hb1, hF3, hw1, Run_loop, hL3, f3, BEq.rfl]
      · have hb1 : (x == 128) = false := by simp [hx1]
        rw [if_neg (by omega)] at hn
        by_cases hx2 : x < 128
        · rw [if_pos hx2] at hn
          have hrd := hstop hx2 (by rw [hW, hn])
          by_cases hv2 : m < numV (b.take (k + 1))
          · rw [if_pos hv2] at hrd
            have hr : rN m (b, 0) = (0, ([], 5)) := by unfold rN; rw [hrd, if_pos rfl, if_neg (by decide)]
            rw [hr, nb]
            simp (maxSteps := 4000000) only [↓set16, ↓sl16, zaa, zab, zac, zad, zz0, zz1, zz2, zz3, zz4, zae, zaf, zag, zah, zai, zaj, zak, zal, zam, zan, zao, zap, zaq, zar, zas, zat, zau, zav, zaw, zax, zay, zaz, zba, zbb, zbc, zbd, zbe, zbf, zbg, zbh, zbi, zbj, zbk, zbl, zbm, zbn, zbo, zbp, zbq, zbr, zbs, zbt, zbu, zbv, zbw, zbx, zby, zbz, zca, zcb, zcc, zcd, zce, zcf, zcg, zch, zci, zcj, zck, zcl, zcm, zcn, ne_eq, zco, zcp, zcq, zcr, zcs, List.replicate, zct, zcu, zcv, zcw, zcx, zcy, zcz, zda, zdb, zdc, zdd, zde, zdf, zdg, zdh, zdi, killT, delta, tak, ev, ad, taks, evs, nL, getH, pack, arith, callD, Nat.reduceAdd, Nat.reduceSub, Nat.reduceMul, Nat.reduceLeDiff, Nat.reduceEqDiff, Nat.reduceBEq, Nat.reduceBNe, Nat.reduceLT, Nat.reduceDiv, Int.reduceNeg, Int.reduceLT, Int.reduceLE, Int.reduceEq, Int.reduceNe, Int.reduceAdd, Int.reduceSub, Int.reduceMul, Int.reduceToNat, Int.reduceBEq, Int.reduceBNe, fillP, fillE, okE, okW, bound, elS, srcS, Fin, finish, ress, resOf, one, keeps, ↓reduceIte, Dl.ap, Dl.slots, okD, isLp, zeros, reduceCtorEq, zdj, zdk, lp_ref02_Reader_Num_1, hl, hc, bl_len, ge_iff_le, gt_iff_lt, hq, hk0, hg0, hg, hb0, hb1, hb8, hx2, hw1, BEq.rfl, Int.toNat_natCast, a1, a2, a3, hxe, q5, q6, okw, ebt, bl_drop, hgd, lts_i, TV.lts, TV.lt, bl_lts, hF5, hv2]
          · rw [if_neg hv2] at hrd
            have hr : rN m (b, 0) = (numV (b.take (k + 1)), (b.drop (k + 1), 0)) := by
              have e : ((k : Int) + 1).toNat = k + 1 := by omega
              unfold rN; rw [hrd, if_pos rfl, if_pos rfl]; simp only [e]
            rw [hr]
            simp (maxSteps := 4000000) only [↓set16, ↓sl16, zaa, zab, zac, zad, zz0, zz1, zz2, zz3, zz4, zae, zaf, zag, zah, zai, zaj, zak, zal, zam, zan, zao, zap, zaq, zar, zas, zat, zau, zav, zaw, zax, zay, zaz, zba, zbb, zbc, zbd, zbe, zbf, zbg, zbh, zbi, zbj, zbk, zbl, zbm, zbn, zbo, zbp, zbq, zbr, zbs, zbt, zbu, zbv, zbw, zbx, zby, zbz, zca, zcb, zcc, zcd, zce, zcf, zcg, zch, zci, zcj, zck, zcl, zcm, zcn, ne_eq, zco, zcp, zcq, zcr, zcs, List.replicate, zct, zcu, zcv, zcw, zcx, zcy, zcz, zda, zdb, zdc, zdd, zde, zdf, zdg, zdh, zdi, killT, delta, tak, ev, ad, taks, evs, nL, getH, pack, arith, callD, Nat.reduceAdd, Nat.reduceSub, Nat.reduceMul, Nat.reduceLeDiff, Nat.reduceEqDiff, Nat.reduceBEq, Nat.reduceBNe, Nat.reduceLT, Nat.reduceDiv, Int.reduceNeg, Int.reduceLT, Int.reduceLE, Int.reduceEq, Int.reduceNe, Int.reduceAdd, Int.reduceSub, Int.reduceMul, Int.reduceToNat, Int.reduceBEq, Int.reduceBNe, fillP, fillE, okE, okW, bound, elS, srcS, Fin, finish, ress, resOf, one, keeps, ↓reduceIte, Dl.ap, Dl.slots, okD, isLp, zeros, reduceCtorEq, zdj, zdk, lp_ref02_Reader_Num_1, hl, hc, bl_len, ge_iff_le, gt_iff_lt, hq, hk0, hg0, hg, hb0, hb1, hb8, hx2, hw1, BEq.rfl, Int.toNat_natCast, a1, a2, a3, hxe, q5, q6, okw, ebt, bl_drop, hgd, lts_i, TV.lts, TV.lt, bl_lts, hv2]
        · rw [if_neg hx2] at hn
          have hg2 := hgo hx2 (by omega) (by rw [hW, hn])
          simp (maxSteps := 4000000) only [↓set16, ↓sl16, zaa, zab, zac, zad, zz0, zz1, zz2, zz3, zz4, zae, zaf, zag, zah, zai, zaj, zak, zal, zam, zan, zao, zap, zaq, zar, zas, zat, zau, zav, zaw, zax, zay, zaz, zba, zbb, zbc, zbd, zbe, zbf, zbg, zbh, zbi, zbj, zbk, zbl, zbm, zbn, zbo, zbp, zbq, zbr, zbs, zbt, zbu, zbv, zbw, zbx, zby, zbz, zca, zcb, zcc, zcd, zce, zcf, zcg, zch, zci, zcj, zck, zcl, zcm, zcn, ne_eq, zco, zcp, zcq, zcr, zcs, List.replicate, zct, zcu, zcv, zcw, zcx, zcy, zcz, zda, zdb, zdc, zdd, zde, zdf, zdg, zdh, zdi, killT, delta, tak, ev, ad, taks, evs, nL, getH, pack, arith, callD, Nat.reduceAdd, Nat.reduceSub, Nat.reduceMul, Nat.reduceLeDiff, Nat.reduceEqDiff, Nat.reduceBEq, Nat.reduceBNe, Nat.reduceLT, Nat.reduceDiv, Int.reduceNeg, Int.reduceLT, Int.reduceLE, Int.reduceEq, Int.reduceNe, Int.reduceAdd, Int.reduceSub, Int.reduceMul, Int.reduceToNat, Int.reduceBEq, Int.reduceBNe, fillP, fillE, okE, okW, bound, elS, srcS, Fin, finish, ress, resOf, one, keeps, ↓reduceIte, Dl.ap, Dl.slots, okD, isLp, zeros, reduceCtorEq, zdj, zdk, lp_ref02_Reader_Num_1, hl, hc, bl_len, ge_iff_le, gt_iff_lt, hq, hk0, hg0, hg, hb0, hb1, hb8, hx2, hw1, BEq.rfl, Int.toNat_natCast, a1, a2, a3, hxe]
          exact hg2
    · have hb0 : ((k : Int) == 0) = false := by simp [h0]
      by_cases h88 : k = 8
      · have hb8 : ((k : Int) == 8) = true := by simp [h88]
        have hg8 : (bl b)[8]? = some (.int .u8 x) := by rw [h88] at hg; exact hg
        by_cases hx2 : x < 128
        · have hx3 : ¬ (128 : Int) ≤ x := by omega
          rw [if_neg (by omega), if_pos hx2] at hn
          have hrd := hstop hx2 (by rw [hW, hn])
          by_cases hv2 : m < numV (b.take (k + 1))
          · rw [if_pos hv2] at hrd
            have hr : rN m (b, 0) = (0, ([], 5)) := by unfold rN; rw [hrd, if_pos rfl, if_neg (by decide)]
            rw [hr, nb]
            simp (maxSteps := 4000000) only [↓set16, ↓sl16, zaa, zab, zac, zad, zz0, zz1, zz2, zz3, zz4, zae, zaf, zag, zah, zai, zaj, zak, zal, zam, zan, zao, zap, zaq, zar, zas, zat, zau, zav, zaw, zax, zay, zaz, zba, zbb, zbc, zbd, zbe, zbf, zbg, zbh, zbi, zbj, zbk, zbl, zbm, zbn, zbo, zbp, zbq, zbr, zbs, zbt, zbu, zbv, zbw, zbx, zby, zbz, zca, zcb, zcc, zcd, zce, zcf, zcg, zch, zci, zcj, zck, zcl, zcm, zcn, ne_eq, zco, zcp, zcq, zcr, zcs, List.replicate, zct, zcu, zcv, zcw, zcx, zcy, zcz, zda, zdb, zdc, zdd, zde, zdf, zdg, zdh, zdi, killT, delta, tak, ev, ad, taks, evs, nL, getH, pack, arith, callD, Nat.reduceAdd, Nat.reduceSub, Nat.reduceMul, Nat.reduceLeDiff, Nat.reduceEqDiff, Nat.reduceBEq, Nat.reduceBNe, Nat.reduceLT, Nat.reduceDiv, Int.reduceNeg, Int.reduceLT, Int.reduceLE, Int.reduceEq, Int.reduceNe, Int.reduceAdd, Int.reduceSub, Int.reduceMul, Int.reduceToNat, Int.reduceBEq, Int.reduceBNe, fillP, fillE, okE, okW, bound, elS, srcS, Fin, finish, ress, resOf, one, keeps, ↓reduceIte, Dl.ap, Dl.slots, okD, isLp, zeros, reduceCtorEq, zdj, zdk, lp_ref02_Reader_Num_1, hl, hc, bl_len, ge_iff_le, gt_iff_lt, hq, hk0, hg8, hg, hb0, hb8, hx2, hx3, hw1, BEq.rfl, Int.toNat_natCast, a1, a2, a3, hxe, q5, q6, okw, ebt, bl_drop, hgd, lts_i, TV.lts, TV.lt, bl_lts, hF5, hv2]
          · rw [if_neg hv2] at hrd
            have hr : rN m (b, 0) = (numV (b.take (k + 1)), (b.drop (k + 1), 0)) := by
              have e : ((k : Int) + 1).toNat = k + 1 := by omega
              unfold rN; rw [hrd, if_pos rfl, if_pos rfl]; simp only [e]
            rw [hr]
            simp (maxSteps := 4000000) only [↓set16, ↓sl16, zaa, zab, zac, zad, zz0, zz1, zz2, zz3, zz4, zae, zaf, zag, zah, zai, zaj, zak, zal, zam, zan, zao, zap, zaq, zar, zas, zat, zau, zav, zaw, zax, zay, zaz, zba, zbb, zbc, zbd, zbe, zbf, zbg, zbh, zbi, zbj, zbk, zbl, zbm, zbn, zbo, zbp, zbq, zbr, zbs, zbt, zbu, zbv, zbw, zbx, zby, zbz, zca, zcb, zcc, zcd, zce, zcf, zcg, zch, zci, zcj, zck, zcl, zcm, zcn, ne_eq, zco, zcp, zcq, zcr, zcs, List.replicate, zct, zcu, zcv, zcw, zcx, zcy, zcz, zda, zdb, zdc, zdd, zde, zdf, zdg, zdh, zdi, killT, delta, tak, ev, ad, taks, evs, nL, getH, pack, arith, callD, Nat.reduceAdd, Nat.reduceSub, Nat.reduceMul, Nat.reduceLeDiff, Nat.reduceEqDiff, Nat.reduceBEq, Nat.reduceBNe, Nat.reduceLT, Nat.reduceDiv, Int.reduceNeg, Int.reduceLT, Int.reduceLE, Int.reduceEq, Int.reduceNe, Int.reduceAdd, Int.reduceSub, Int.reduceMul, Int.reduceToNat, Int.reduceBEq, Int.reduceBNe, fillP, fillE, okE, okW, bound, elS, srcS, Fin, finish, ress, resOf, one, keeps, ↓reduceIte, Dl.ap, Dl.slots, okD, isLp, zeros, reduceCtorEq, zdj, zdk, lp_ref02_Reader_Num_1, hl, hc, bl_len, ge_iff_le, gt_iff_lt, hq, hk0, hg8, hg, hb0, hb8, hx2, hx3, hw1, BEq.rfl, Int.toNat_natCast, a1, a2, a3, hxe, q5, q6, okw, ebt, bl_drop, hgd, lts_i, TV.lts, TV.lt, bl_lts, hv2]
        · have hx3 : (128 : Int) ≤ x := by omega
          rw [hE 3 (by decide) (by rw [hW, hn, if_pos (.inr ⟨h88, hx3⟩)]), nb]
          simp (maxSteps := 4000000) only [↓set16, ↓sl16, zaa, zab, zac, zad, zz0, zz1, zz2, zz3, zz4, zae, zaf, zag, zah, zai, zaj, zak, zal, zam, zan, zao, zap, zaq, zar, zas, zat, zau, zav, zaw, zax, zay, zaz, zba, zbb, zbc, zbd, zbe, zbf, zbg, zbh, zbi, zbj, zbk, zbl, zbm, zbn, zbo, zbp, zbq, zbr, zbs, zbt, zbu, zbv, zbw, zbx, zby, zbz, zca, zcb, zcc, zcd, zce, zcf, zcg, zch, zci, zcj, zck, zcl, zcm, zcn, ne_eq, zco, zcp, zcq, zcr, zcs, List.replicate, zct, zcu, zcv, zcw, zcx, zcy, zcz, zda, zdb, zdc, zdd, zde, zdf, zdg, zdh, zdi, killT, delta, tak, ev, ad, taks, evs, nL, getH, pack, arith, callD, Nat.reduceAdd, Nat.reduceSub, Nat.reduceMul, Nat.reduceLeDiff, Nat.reduceEqDiff, Nat.reduceBEq, Nat.reduceBNe, Nat.reduceLT, Nat.reduceDiv, Int.reduceNeg, Int.reduceLT, Int.reduceLE, Int.reduceEq, Int.reduceNe, Int.reduceAdd, Int.reduceSub, Int.reduceMul, Int.reduceToNat, Int.reduceBEq, Int.reduceBNe, fillP, fillE, okE, okW, bound, elS, srcS, Fin, finish, ress, resOf, one, keeps, ↓reduceIte, Dl.ap, Dl.slots, okD, isLp, zeros, reduceCtorEq, zdj, zdk, lp_ref02_Reader_Num_1, hl, hc, bl_len, ge_iff_le, hq, hk0, hg8, hb0, hb8, hx3, hF3, hw1, Run_loop, hL3, f3, BEq.rfl]
      · have hb8 : ((k : Int) == 8) = false := by rw [beq_eq_false_iff_ne]; omega
        rw [if_neg (by omega)] at hn
        by_cases hx2 : x < 128
        · rw [if_pos hx2] at hn
          have hrd := hstop hx2 (by rw [hW, hn])
          by_cases hv2 : m < numV (b.take (k + 1))
          · rw [if_pos hv2] at hrd
            have hr : rN m (b, 0) = (0, ([], 5)) := by unfold rN; rw [hrd, if_pos rfl, if_neg (by decide)]
            rw [hr, nb]
            simp (maxSteps := 4000000) only [↓set16, ↓sl16, zaa, zab, zac, zad, zz0, zz1, zz2, zz3, zz4, zae, zaf, zag, zah, zai, zaj, zak, zal, zam, zan, zao, zap, zaq, zar, zas, zat, zau, zav, zaw, zax, zay, zaz, zba, zbb, zbc, zbd, zbe, zbf, zbg, zbh, zbi, zbj, zbk, zbl, zbm, zbn, zbo, zbp, zbq, zbr, zbs, zbt, zbu, zbv, zbw, zbx, zby, zbz, zca, zcb, zcc, zcd, zce, zcf, zcg, zch, zci, zcj, zck, zcl, zcm, zcn, ne_eq, zco, zcp, zcq, zcr, zcs, List.replicate, zct, zcu, zcv, zcw, zcx, zcy, zcz, zda, zdb, zdc, zdd, zde, zdf, zdg, zdh, zdi, killT, delta, tak, ev, ad, taks, evs, nL, getH, pack, arith, callD, Nat.reduceAdd, Nat.reduceSub, Nat.reduceMul, Nat.reduceLeDiff, Nat.reduceEqDiff, Nat.reduceBEq, Nat.reduceBNe, Nat.reduceLT, Nat.reduceDiv, Int.reduceNeg, Int.reduceLT, Int.reduceLE, Int.reduceEq, Int.reduceNe, Int.reduceAdd, Int.reduceSub, Int.reduceMul, Int.reduceToNat, Int.reduceBEq, Int.reduceBNe, fillP, fillE, okE, okW, bound, elS, srcS, Fin, finish, ress, resOf, one, keeps, ↓reduceIte, Dl.ap, Dl.slots, okD, isLp, zeros, reduceCtorEq, zdj, zdk, lp_ref02_Reader_Num_1, hl, hc, bl_len, ge_iff_le, gt_iff_lt, hq, hk0, hg, hb0, hb8, hx2, hw1, BEq.rfl, Int.toNat_natCast, a1, a2, a3, hxe, q5, q6, okw, ebt, bl_drop, hgd, lts_i, TV.lts, TV.lt, bl_lts, hF5, hv2]
          · rw [if_neg hv2] at hrd
            have hr : rN m (b, 0) = (numV (b.take (k + 1)), (b.drop (k + 1), 0)) := by
              have e : ((k : Int) + 1).toNat = k + 1 := by omega
              unfold rN; rw [hrd, if_pos rfl, if_pos rfl]; simp only [e]
            rw [hr]
            simp (maxSteps := 4000000) only [↓set16, ↓sl16, zaa, zab, zac, zad, zz0, zz1, zz2, zz3, zz4, zae, zaf, zag, zah, zai, zaj, zak, zal, zam, zan, zao, zap, zaq, zar, zas, zat, zau, zav, zaw, zax, zay, zaz, zba, zbb, zbc, zbd, zbe, zbf, zbg, zbh, zbi, zbj, zbk, zbl, zbm, zbn, zbo, zbp, zbq, zbr, zbs, zbt, zbu, zbv, zbw, zbx, zby, zbz, zca, zcb, zcc, zcd, zce, zcf, zcg, zch, zci, zcj, zck, zcl, zcm, zcn, ne_eq, zco, zcp, zcq, zcr, zcs, List.replicate, zct, zcu, zcv, zcw, zcx, zcy, zcz, zda, zdb, zdc, zdd, zde, zdf, zdg, zdh, zdi, killT, delta, tak, ev, ad, taks, evs, nL, getH, pack, arith, callD, Nat.reduceAdd, Nat.reduceSub, Nat.reduceMul, Nat.reduceLeDiff, Nat.reduceEqDiff, Nat.reduceBEq, Nat.reduceBNe, Nat.reduceLT, Nat.reduceDiv, Int.reduceNeg, Int.reduceLT, Int.reduceLE, Int.reduceEq, Int.reduceNe, Int.reduceAdd, Int.reduceSub, Int.reduceMul, Int.reduceToNat, Int.reduceBEq, Int.reduceBNe, fillP, fillE, okE, okW, bound, elS, srcS, Fin, finish, ress, resOf, one, keeps, ↓reduceIte, Dl.ap, Dl.slots, okD, isLp, zeros, reduceCtorEq, zdj, zdk, lp_ref02_Reader_Num_1, hl, hc, bl_len, ge_iff_le, gt_iff_lt, hq, hk0, hg, hb0, hb8, hx2, hw1, BEq.rfl, Int.toNat_natCast, a1, a2, a3, hxe, q5, q6, okw, ebt, bl_drop, hgd, lts_i, TV.lts, TV.lt, bl_lts, hv2]
        · rw [if_neg hx2] at hn
          have hg2 := hgo hx2 (by omega) (by rw [hW, hn])
          simp (maxSteps := 4000000) only [↓set16, ↓sl16, zaa, zab, zac, zad, zz0, zz1, zz2, zz3, zz4, zae, zaf, zag, zah, zai, zaj, zak, zal, zam, zan, zao, zap, zaq, zar, zas, zat, zau, zav, zaw, zax, zay, zaz, zba, zbb, zbc, zbd, zbe, zbf, zbg, zbh, zbi, zbj, zbk, zbl, zbm, zbn, zbo, zbp, zbq, zbr, zbs, zbt, zbu, zbv, zbw, zbx, zby, zbz, zca, zcb, zcc, zcd, zce, zcf, zcg, zch, zci, zcj, zck, zcl, zcm, zcn, ne_eq, zco, zcp, zcq, zcr, zcs, List.replicate, zct, zcu, zcv, zcw, zcx, zcy, zcz, zda, zdb, zdc, zdd, zde, zdf, zdg, zdh, zdi, killT, delta, tak, ev, ad, taks, evs, nL, getH, pack, arith, callD, Nat.reduceAdd, Nat.reduceSub, Nat.reduceMul, Nat.reduceLeDiff, Nat.reduceEqDiff, Nat.reduceBEq, Nat.reduceBNe, Nat.reduceLT, Nat.reduceDiv, Int.reduceNeg, Int.reduceLT, Int.reduceLE, Int.reduceEq, Int.reduceNe, Int.reduceAdd, Int.reduceSub, Int.reduceMul, Int.reduceToNat, Int.reduceBEq, Int.reduceBNe, fillP, fillE, okE, okW, bound, elS, srcS, Fin, finish, ress, resOf, one, keeps, ↓reduceIte, Dl.ap, Dl.slots, okD, isLp, zeros, reduceCtorEq, zdj, zdk, lp_ref02_Reader_Num_1, hl, hc, bl_len, ge_iff_le, gt_iff_lt, hq, hk0, hg, hb0, hb8, hx2, hw1, BEq.rfl, Int.toNat_natCast, a1, a2, a3, hxe]
          exact hg2
theorem rf_Num {m : Int} (hm : 0 ≤ m) (hl : live H i = some [c, .int .i64 0]) (hc : c.shr0 = .sl .shr (bl b)) (hb : b.length ≤ 4000000) (hby : ∀ x ∈ b, 0 ≤ x ∧ x ≤ 255) :
    CT n_ref02_Reader_Num [.ptr i 0, .int .i64 m] H = some ⟨.int .i64 (rN m (b, 0)).1, H.set i [.sl .shr (bl (rN m (b, 0)).2.1), .int .i64 (rN m (b, 0)).2.2], false⟩ := by
  refine callT_of rfl tab_ref02_Reader_Num ?_
  simp (maxSteps := 4000000) only [↓set16, ↓sl16, zaa, zab, zac, zad, zz0, zz1, zz2, zz3, zz4, zae, zaf, zag, zah, zai, zaj, zak, zal, zam, zan, zao, zap, zaq, zar, zas, zat, zau, zav, zaw, zax, zay, zaz, zba, zbb, zbc, zbd, zbe, zbf, zbg, zbh, zbi, zbj, zbk, zbl, zbm, zbn, zbo, zbp, zbq, zbr, zbs, zbt, zbu, zbv, zbw, zbx, zby, zbz, zca, zcb, zcc, zcd, zce, zcf, zcg, zch, zci, zcj, zck, zcl, zcm, zcn, ne_eq, zco, zcp, zcq, zcr, zcs, List.replicate, zct, zcu, zcv, zcw, zcx, zcy, zcz, zda, zdb, zdc, zdd, zde, zdf, zdg, zdh, zdi, killT, delta, tak, ev, ad, taks, evs, nL, getH, pack, arith, callD, Nat.reduceAdd, Nat.reduceSub, Nat.reduceMul, Nat.reduceLeDiff, Nat.reduceEqDiff, Nat.reduceBEq, Nat.reduceBNe, Nat.reduceLT, Nat.reduceDiv, Int.reduceNeg, Int.reduceLT, Int.reduceLE, Int.reduceEq, Int.reduceNe, Int.reduceAdd, Int.reduceSub, Int.reduceMul, Int.reduceToNat, Int.reduceBEq, Int.reduceBNe, fillP, fillE, okE, okW, bound, elS, srcS, Fin, finish, ress, resOf, one, keeps, ↓reduceIte, Dl.ap, Dl.slots, okD, isLp, zeros, reduceCtorEq, zdj, zdk, tf_ref02_Reader_Num]
  exact rf_num_loop hm hl hc hb hby b 0 rfl (by omega) (by omega) rfl
end Go.T
