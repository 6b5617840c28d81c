/- What the pack's reader answers. -/
import Derived.Test.YtijmmpeadikkbaaOfpk2
set_option linter.unusedVariables false
set_option linter.unusedSimpArgs false
set_option maxRecDepth 10000
set_option maxHeartbeats 1000000
namespace Go.T
attribute [local irreducible] Run Back RS Ap
variable {H : Heap} {i : Nat} {c : TV} {b : List Int}
theorem live_set2 {a b : TV} {l : List TV} (hi : i < H.length) : live (H.set i (a :: b :: l)) i = some (a :: b :: l) := live_set_eq hi dead_two
theorem pk_works {e : Int} (hl : live H i = some [c, .int .i64 e, .bool true]) : CT n_pack_Reader_works [.ptr i 0] H = some ⟨.bool (e == 0), H, false⟩ := by
  refine callT_of rfl tab_pack_Reader_works ?_
  simp (maxSteps := 4000000) only [↓set16, ↓sl16, zaa, zab, zac, zad, zz0, zz1, zz2, zz3, zz4, zae, zaf, zag, zah, zai, zaj, zak, zal, zam, zan, zao, zap, zaq, zar, zas, zat, zau, zav, zaw, zax, zay, zaz, zba, zbb, zbc, zbd, zbe, zbf, zbg, zbh, zbi, zbj, zbk, zbl, zbm, zbn, zbo, zbp, zbq, zbr, zbs, zbt, zbu, zbv, zbw, zbx, zby, zbz, zca, zcb, zcc, zcd, zce, zcf, zcg, zch, zci, zcj, zck, zcl, zcm, zcn, ne_eq, zco, zcp, zcq, zcr, zcs, List.replicate, zct, zcu, zcv, zcw, zcx, zcy, zcz, zda, zdb, zdc, zdd, zde, zdf, zdg, zdh, zdi, killT, delta, tak, ev, ad, taks, evs, nL, getH, pack, arith, callD, Nat.reduceAdd, Nat.reduceSub, Nat.reduceMul, Nat.reduceLeDiff, Nat.reduceEqDiff, Nat.reduceBEq, Nat.reduceBNe, Nat.reduceLT, Nat.reduceDiv, Int.reduceNeg, Int.reduceLT, Int.reduceLE, Int.reduceEq, Int.reduceNe, Int.reduceAdd, Int.reduceSub, Int.reduceMul, Int.reduceToNat, Int.reduceBEq, Int.reduceBNe, fillP, fillE, okE, okW, bound, elS, srcS, Fin, finish, ress, resOf, one, keeps, ↓reduceIte, Dl.ap, Dl.slots, okD, isLp, zeros, reduceCtorEq, zdj, zdk, tf_pack_Reader_works, hl]
theorem pk_Fail {x : Int} (hl : live H i = some [c, .int .i64 0, .bool true]) (hx : x ≠ 0) : CT n_pack_Reader_Fail [.ptr i 0, .int .i64 x] H = some ⟨.tup [], H.set i [.sl .shr [], .int .i64 x, .bool true], false⟩ := by
  have hw := pk_works hl
  have hb : (x == 0) = false := by simp [hx]
  have hi := live_lt hl
  have hb0 : ((0 : Int) == 0) = true := rfl
  rw [hb0] at hw
  have hg := getD_live hl
  refine callT_of rfl tab_pack_Reader_Fail ?_
  simp (maxSteps := 4000000) only [↓set16, ↓sl16, zaa, zab, zac, zad, zz0, zz1, zz2, zz3, zz4, zae, zaf, zag, zah, zai, zaj, zak, zal, zam, zan, zao, zap, zaq, zar, zas, zat, zau, zav, zaw, zax, zay, zaz, zba, zbb, zbc, zbd, zbe, zbf, zbg, zbh, zbi, zbj, zbk, zbl, zbm, zbn, zbo, zbp, zbq, zbr, zbs, zbt, zbu, zbv, zbw, zbx, zby, zbz, zca, zcb, zcc, zcd, zce, zcf, zcg, zch, zci, zcj, zck, zcl, zcm, zcn, ne_eq, zco, zcp, zcq, zcr, zcs, List.replicate, zct, zcu, zcv, zcw, zcx, zcy, zcz, zda, zdb, zdc, zdd, zde, zdf, zdg, zdh, zdi, killT, delta, tak, ev, ad, taks, evs, nL, getH, pack, arith, callD, Nat.reduceAdd, Nat.reduceSub, Nat.reduceMul, Nat.reduceLeDiff, Nat.reduceEqDiff, Nat.reduceBEq, Nat.reduceBNe, Nat.reduceLT, Nat.reduceDiv, Int.reduceNeg, Int.reduceLT, Int.reduceLE, Int.reduceEq, Int.reduceNe, Int.reduceAdd, Int.reduceSub, Int.reduceMul, Int.reduceToNat, Int.reduceBEq, Int.reduceBNe, fillP, fillE, okE, okW, bound, elS, srcS, Fin, finish, ress, resOf, one, keeps, ↓reduceIte, Dl.ap, Dl.slots, okD, isLp, zeros, reduceCtorEq, zdj, zdk, tf_pack_Reader_Fail, hw, hb, hl, live_set2 hi, hg, List.set_set, lts_i, TV.lts, TV.lt]
theorem pk_take {n : Nat} {e : Int} (hl : live H i = some [c, .int .i64 e, .bool true]) (hc : c.shr0 = .sl .shr (bl b)) (hn : n ≤ b.length) : CT n_pack_Reader_take [.ptr i 0, .int .i64 n] H = some ⟨.sl .shr (bl (b.take n)), H.set i [.sl .shr (bl (b.drop n)), .int .i64 e, .bool true], false⟩ := by
  have hi := live_lt hl
  have hg := getD_live hl
  have q1 : ¬ ((b.length : Nat) : Int) < n := by omega
  have q2 : ((n : Nat) : Int) ≤ b.length := by omega
  have q0 : (0 : Int) ≤ n := by omega
  have okw := bl_okW b
  have e1 : ((bl b).take n).drop 0 = bl (b.take n) := by rw [List.drop_zero, bl_take]
  have e2 : ((bl b).take b.length).drop n = bl (b.drop n) := by rw [← bl_len b, List.take_length, bl_drop]
  refine callT_of rfl tab_pack_Reader_take ?_
  simp (maxSteps := 4000000) only [↓set16, ↓sl16, zaa, zab, zac, zad, zz0, zz1, zz2, zz3, zz4, zae, zaf, zag, zah, zai, zaj, zak, zal, zam, zan, zao, zap, zaq, zar, zas, zat, zau, zav, zaw, zax, zay, zaz, zba, zbb, zbc, zbd, zbe, zbf, zbg, zbh, zbi, zbj, zbk, zbl, zbm, zbn, zbo, zbp, zbq, zbr, zbs, zbt, zbu, zbv, zbw, zbx, zby, zbz, zca, zcb, zcc, zcd, zce, zcf, zcg, zch, zci, zcj, zck, zcl, zcm, zcn, ne_eq, zco, zcp, zcq, zcr, zcs, List.replicate, zct, zcu, zcv, zcw, zcx, zcy, zcz, zda, zdb, zdc, zdd, zde, zdf, zdg, zdh, zdi, killT, delta, tak, ev, ad, taks, evs, nL, getH, pack, arith, callD, Nat.reduceAdd, Nat.reduceSub, Nat.reduceMul, Nat.reduceLeDiff, Nat.reduceEqDiff, Nat.reduceBEq, Nat.reduceBNe, Nat.reduceLT, Nat.reduceDiv, Int.reduceNeg, Int.reduceLT, Int.reduceLE, Int.reduceEq, Int.reduceNe, Int.reduceAdd, Int.reduceSub, Int.reduceMul, Int.reduceToNat, Int.reduceBEq, Int.reduceBNe, fillP, fillE, okE, okW, bound, elS, srcS, Fin, finish, ress, resOf, one, keeps, ↓reduceIte, Dl.ap, Dl.slots, okD, isLp, zeros, reduceCtorEq, zdj, zdk, tf_pack_Reader_take, hl, hc, bl_len, gt_iff_lt, q1, q2, q0, okw, Int.toNat_natCast, bl_take, bl_drop, List.take_length, hg, live_set2 hi, List.set_set, bl_lts, TV.lts, TV.lt, Int.le_refl]
theorem pk_take_short {n : Nat} (hl : live H i = some [c, .int .i64 0, .bool true]) (hc : c.shr0 = .sl .shr (bl b)) (hn : b.length < n) : CT n_pack_Reader_take [.ptr i 0, .int .i64 n] H = some ⟨.nils, H.set i [.sl .shr [], .int .i64 4, .bool true], false⟩ := by
  have q1 : ((b.length : Nat) : Int) < n := by omega
  have hF := pk_Fail (x := 4) hl (by decide)
  refine callT_of rfl tab_pack_Reader_take ?_
  simp (maxSteps := 4000000) only [↓set16, ↓sl16, zaa, zab, zac, zad, zz0, zz1, zz2, zz3, zz4, zae, zaf, zag, zah, zai, zaj, zak, zal, zam, zan, zao, zap, zaq, zar, zas, zat, zau, zav, zaw, zax, zay, zaz, zba, zbb, zbc, zbd, zbe, zbf, zbg, zbh, zbi, zbj, zbk, zbl, zbm, zbn, zbo, zbp, zbq, zbr, zbs, zbt, zbu, zbv, zbw, zbx, zby, zbz, zca, zcb, zcc, zcd, zce, zcf, zcg, zch, zci, zcj, zck, zcl, zcm, zcn, ne_eq, zco, zcp, zcq, zcr, zcs, List.replicate, zct, zcu, zcv, zcw, zcx, zcy, zcz, zda, zdb, zdc, zdd, zde, zdf, zdg, zdh, zdi, killT, delta, tak, ev, ad, taks, evs, nL, getH, pack, arith, callD, Nat.reduceAdd, Nat.reduceSub, Nat.reduceMul, Nat.reduceLeDiff, Nat.reduceEqDiff, Nat.reduceBEq, Nat.reduceBNe, Nat.reduceLT, Nat.reduceDiv, Int.reduceNeg, Int.reduceLT, Int.reduceLE, Int.reduceEq, Int.reduceNe, Int.reduceAdd, Int.reduceSub, Int.reduceMul, Int.reduceToNat, Int.reduceBEq, Int.reduceBNe, fillP, fillE, okE, okW, bound, elS, srcS, Fin, finish, ress, resOf, one, keeps, ↓reduceIte, Dl.ap, Dl.slots, okD, isLp, zeros, reduceCtorEq, zdj, zdk, tf_pack_Reader_take, hl, hc, bl_len, gt_iff_lt, q1, hF]
def widR (H : Heap) (i : Nat) (r : Int × Int) : Ret := if r.1 = 0 then ⟨.int .i64 r.2, H, false⟩ else ⟨.int .i64 0, H.set i [.sl .shr [], .int .i64 r.1, .bool true], false⟩
theorem pk_width (hl : live H i = some [c, .int .i64 0, .bool true]) (hc : c.shr0 = .sl .shr (bl b)) (hb : b.length ≤ 4000000) : CT n_pack_Reader_width [.ptr i 0] H = some (widR H i (numW 0 b)) := by
  have hF4 := pk_Fail (x := 4) hl (by decide)
  have hF3 := pk_Fail (x := 3) hl (by decide)
  refine callT_of rfl tab_pack_Reader_width ?_
  simp (maxSteps := 4000000) only [↓set16, ↓sl16, zaa, zab, zac, zad, zz0, zz1, zz2, zz3, zz4, zae, zaf, zag, zah, zai, zaj, zak, zal, zam, zan, zao, zap, zaq, zar, zas, zat, zau, zav, zaw, zax, zay, zaz, zba, zbb, zbc, zbd, zbe, zbf, zbg, zbh, zbi, zbj, zbk, zbl, zbm, zbn, zbo, zbp, zbq, zbr, zbs, zbt, zbu, zbv, zbw, zbx, zby, zbz, zca, zcb, zcc, zcd, zce, zcf, zcg, zch, zci, zcj, zck, zcl, zcm, zcn, ne_eq, zco, zcp, zcq, zcr, zcs, List.replicate, zct, zcu, zcv, zcw, zcx, zcy, zcz, zda, zdb, zdc, zdd, zde, zdf, zdg, zdh, zdi, killT, delta, tak, ev, ad, taks, evs, nL, getH, pack, arith, callD, Nat.reduceAdd, Nat.reduceSub, Nat.reduceMul, Nat.reduceLeDiff, Nat.reduceEqDiff, Nat.reduceBEq, Nat.reduceBNe, Nat.reduceLT, Nat.reduceDiv, Int.reduceNeg, Int.reduceLT, Int.reduceLE, Int.reduceEq, Int.reduceNe, Int.reduceAdd, Int.reduceSub, Int.reduceMul, Int.reduceToNat, Int.reduceBEq, Int.reduceBNe, fillP, fillE, okE, okW, bound, elS, srcS, Fin, finish, ress, resOf, one, keeps, ↓reduceIte, Dl.ap, Dl.slots, okD, isLp, zeros, reduceCtorEq, zdj, zdk, tf_pack_Reader_width, hl, hc, bl_len]
  refine loopI b (by omega) (fun acc suf => widR H i (numW acc suf)) (fun k _ => ⟨(.ptr i 0 :: TV.tup [] :: TV.junk :: TV.junk :: TV.junk :: TV.junk :: TV.junk :: TV.junk :: .sl .shr (bl b) :: .int .i64 b.length :: .int .i64 k :: TV.junk :: TV.junk :: TV.junk :: TV.junk :: TV.junk :: TV.junk :: TV.junk :: TV.junk :: TV.junk :: TV.junk :: TV.junk :: TV.junk :: TV.junk :: TV.junk :: TV.junk :: TV.junk :: TV.junk :: TV.junk :: TV.junk :: TV.junk :: TV.junk :: TV.junk :: TV.junk :: TV.junk :: TV.junk :: TV.tup [] :: TV.tup [] :: []), H, H.length, false⟩) (fun k acc => acc = k ∧ k ≤ 8) ?_ ?_ 0 ⟨rfl, by omega⟩
  · intro acc hi hq
    have e : widR H i (numW acc []) = ⟨.int .i64 0, H.set i [.sl .shr [], .int .i64 4, .bool true], false⟩ := rfl
    rw [e, Run_loop]
    simp (maxSteps := 4000000) only [↓set16, ↓sl16, zaa, zab, zac, zad, zz0, zz1, zz2, zz3, zz4, zae, zaf, zag, zah, zai, zaj, zak, zal, zam, zan, zao, zap, zaq, zar, zas, zat, zau, zav, zaw, zax, zay, zaz, zba, zbb, zbc, zbd, zbe, zbf, zbg, zbh, zbi, zbj, zbk, zbl, zbm, zbn, zbo, zbp, zbq, zbr, zbs, zbt, zbu, zbv, zbw, zbx, zby, zbz, zca, zcb, zcc, zcd, zce, zcf, zcg, zch, zci, zcj, zck, zcl, zcm, zcn, ne_eq, zco, zcp, zcq, zcr, zcs, List.replicate, zct, zcu, zcv, zcw, zcx, zcy, zcz, zda, zdb, zdc, zdd, zde, zdf, zdg, zdh, zdi, killT, delta, tak, ev, ad, taks, evs, nL, getH, pack, arith, callD, Nat.reduceAdd, Nat.reduceSub, Nat.reduceMul, Nat.reduceLeDiff, Nat.reduceEqDiff, Nat.reduceBEq, Nat.reduceBNe, Nat.reduceLT, Nat.reduceDiv, Int.reduceNeg, Int.reduceLT, Int.reduceLE, Int.reduceEq, Int.reduceNe, Int.reduceAdd, Int.reduceSub, Int.reduceMul, Int.reduceToNat, Int.reduceBEq, Int.reduceBNe, fillP, fillE, okE, okW, bound, elS, srcS, Fin, finish, ress, resOf, one, keeps, ↓reduceIte, Dl.ap, Dl.slots, okD, isLp, zeros, reduceCtorEq, zdj, zdk, lp_pack_Reader_width_2, jn_pack_Reader_width_1, hq, hF4]
  · rintro k x acc rest ⟨rfl, h8⟩ hx hk hk0 hw ih
    have hg := bl_get hx
    have hn : numW acc (x :: rest) = if (acc = 0 ∧ x = 128) ∨ (acc = 8 ∧ 128 ≤ x) then (3, 0) else if x < 128 then (0, (acc : Int) + 1) else numW (acc + 1) rest := rfl
    have e3 : (numW acc (x :: rest) = (3, 0)) → widR H i (numW acc (x :: rest)) = ⟨.int .i64 0, H.set i [.sl .shr [], .int .i64 3, .bool true], false⟩ := fun h => by rw [h]; rfl
    have e0 : (numW acc (x :: rest) = (0, (acc : Int) + 1)) → widR H i (numW acc (x :: rest)) = ⟨.int .i64 ((acc + 1 : Nat) : Int), H, false⟩ := fun h => by rw [h]; rfl
    rw [Run_loop]
    by_cases h0 : acc = 0
    · have hb0 : ((acc : Int) == 0) = true := by simp [h0]
      have hb8 : ((acc : Int) == 8) = false := by simp [h0]
      by_cases hx1 : x = 128
      · have hb1 : (x == 128) = true := by simp [hx1]
        rw [e3 (by rw [hn, if_pos (.inl ⟨h0, hx1⟩)])]
        simp (maxSteps := 4000000) only [↓set16, ↓sl16, zaa, zab, zac, zad, zz0, zz1, zz2, zz3, zz4, zae, zaf, zag, zah, zai, zaj, zak, zal, zam, zan, zao, zap, zaq, zar, zas, zat, zau, zav, zaw, zax, zay, zaz, zba, zbb, zbc, zbd, zbe, zbf, zbg, zbh, zbi, zbj, zbk, zbl, zbm, zbn, zbo, zbp, zbq, zbr, zbs, zbt, zbu, zbv, zbw, zbx, zby, zbz, zca, zcb, zcc, zcd, zce, zcf, zcg, zch, zci, zcj, zck, zcl, zcm, zcn, ne_eq, zco, zcp, zcq, zcr, zcs, List.replicate, zct, zcu, zcv, zcw, zcx, zcy, zcz, zda, zdb, zdc, zdd, zde, zdf, zdg, zdh, zdi, killT, delta, tak, ev, ad, taks, evs, nL, getH, pack, arith, callD, Nat.reduceAdd, Nat.reduceSub, Nat.reduceMul, Nat.reduceLeDiff, Nat.reduceEqDiff, Nat.reduceBEq, Nat.reduceBNe, Nat.reduceLT, Nat.reduceDiv, Int.reduceNeg, Int.reduceLT, Int.reduceLE, Int.reduceEq, Int.reduceNe, Int.reduceAdd, Int.reduceSub, Int.reduceMul, Int.reduceToNat, Int.reduceBEq, Int.reduceBNe, fillP, fillE, okE, okW, bound, elS, srcS, Fin, finish, ress, resOf, one, keeps, ↓reduceIte, Dl.ap, Dl.slots, okD, isLp, zeros, reduceCtorEq, zdj, zdk, lp_pack_Reader_width_2, jn_pack_Reader_width_1, hk, hk0, hg, Int.toNat_natCast, hb0, hb1, hF3]
      · have hb1 : (x == 128) = false := by simp [hx1]
        rw [if_neg (by omega)] at hn
        by_cases hx2 : x < 128
        · rw [if_pos hx2] at hn
          rw [e0 hn]
          simp (maxSteps := 4000000) only [↓set16, ↓sl16, zaa, zab, zac, zad, zz0, zz1, zz2, zz3, zz4, zae, zaf, zag, zah, zai, zaj, zak, zal, zam, zan, zao, zap, zaq, zar, zas, zat, zau, zav, zaw, zax, zay, zaz, zba, zbb, zbc, zbd, zbe, zbf, zbg, zbh, zbi, zbj, zbk, zbl, zbm, zbn, zbo, zbp, zbq, zbr, zbs, zbt, zbu, zbv, zbw, zbx, zby, zbz, zca, zcb, zcc, zcd, zce, zcf, zcg, zch, zci, zcj, zck, zcl, zcm, zcn, ne_eq, zco, zcp, zcq, zcr, zcs, List.replicate, zct, zcu, zcv, zcw, zcx, zcy, zcz, zda, zdb, zdc, zdd, zde, zdf, zdg, zdh, zdi, killT, delta, tak, ev, ad, taks, evs, nL, getH, pack, arith, callD, Nat.reduceAdd, Nat.reduceSub, Nat.reduceMul, Nat.reduceLeDiff, Nat.reduceEqDiff, Nat.reduceBEq, Nat.reduceBNe, Nat.reduceLT, Nat.reduceDiv, Int.reduceNeg, Int.reduceLT, Int.reduceLE, Int.reduceEq, Int.reduceNe, Int.reduceAdd, Int.reduceSub, Int.reduceMul, Int.reduceToNat, Int.reduceBEq, Int.reduceBNe, fillP, fillE, okE, okW, bound, elS, srcS, Fin, finish, ress, resOf, one, keeps, ↓reduceIte, Dl.ap, Dl.slots, okD, isLp, zeros, reduceCtorEq, zdj, zdk, lp_pack_Reader_width_2, jn_pack_Reader_width_1, hk, hk0, hg, Int.toNat_natCast, hb0, hb1, hb8, hx2, hw]
        · rw [if_neg hx2] at hn
          rw [hn]
          have hgo := ih (acc + 1) ⟨rfl, by omega⟩
          simp (maxSteps := 4000000) only [↓set16, ↓sl16, zaa, zab, zac, zad, zz0, zz1, zz2, zz3, zz4, zae, zaf, zag, zah, zai, zaj, zak, zal, zam, zan, zao, zap, zaq, zar, zas, zat, zau, zav, zaw, zax, zay, zaz, zba, zbb, zbc, zbd, zbe, zbf, zbg, zbh, zbi, zbj, zbk, zbl, zbm, zbn, zbo, zbp, zbq, zbr, zbs, zbt, zbu, zbv, zbw, zbx, zby, zbz, zca, zcb, zcc, zcd, zce, zcf, zcg, zch, zci, zcj, zck, zcl, zcm, zcn, ne_eq, zco, zcp, zcq, zcr, zcs, List.replicate, zct, zcu, zcv, zcw, zcx, zcy, zcz, zda, zdb, zdc, zdd, zde, zdf, zdg, zdh, zdi, killT, delta, tak, ev, ad, taks, evs, nL, getH, pack, arith, callD, Nat.reduceAdd, Nat.reduceSub, Nat.reduceMul, Nat.reduceLeDiff, Nat.reduceEqDiff, Nat.reduceBEq, Nat.reduceBNe, Nat.reduceLT, Nat.reduceDiv, Int.reduceNeg, Int.reduceLT, Int.reduceLE, Int.reduceEq, Int.reduceNe, Int.reduceAdd, Int.reduceSub, Int.reduceMul, Int.reduceToNat, Int.reduceBEq, Int.reduceBNe, fillP, fillE, okE, okW, bound, elS, srcS, Fin, finish, ress, resOf, one, keeps, ↓reduceIte, Dl.ap, Dl.slots, okD, isLp, zeros, reduceCtorEq, zdj, zdk, lp_pack_Reader_width_2, jn_pack_Reader_width_1, hk, hk0, hg, Int.toNat_natCast, hb0, hb1, hb8, hx2, hw]
          exact hgo
    · have hb0 : ((acc : Int) == 0) = false := by simp [h0]
      by_cases h88 : acc = 8
      · have hb8 : ((acc : Int) == 8) = true := by simp [h88]
        by_cases hx2 : x < 128
        · rw [if_neg (by omega), if_pos hx2] at hn
          have hx3 : ¬ (128 : Int) ≤ x := by omega
          rw [e0 hn]
          simp (maxSteps := 4000000) only [↓set16, ↓sl16, zaa, zab, zac, zad, zz0, zz1, zz2, zz3, zz4, zae, zaf, zag, zah, zai, zaj, zak, zal, zam, zan, zao, zap, zaq, zar, zas, zat, zau, zav, zaw, zax, zay, zaz, zba, zbb, zbc, zbd, zbe, zbf, zbg, zbh, zbi, zbj, zbk, zbl, zbm, zbn, zbo, zbp, zbq, zbr, zbs, zbt, zbu, zbv, zbw, zbx, zby, zbz, zca, zcb, zcc, zcd, zce, zcf, zcg, zch, zci, zcj, zck, zcl, zcm, zcn, ne_eq, zco, zcp, zcq, zcr, zcs, List.replicate, zct, zcu, zcv, zcw, zcx, zcy, zcz, zda, zdb, zdc, zdd, zde, zdf, zdg, zdh, zdi, killT, delta, tak, ev, ad, taks, evs, nL, getH, pack, arith, callD, Nat.reduceAdd, Nat.reduceSub, Nat.reduceMul, Nat.reduceLeDiff, Nat.reduceEqDiff, Nat.reduceBEq, Nat.reduceBNe, Nat.reduceLT, Nat.reduceDiv, Int.reduceNeg, Int.reduceLT, Int.reduceLE, Int.reduceEq, Int.reduceNe, Int.reduceAdd, Int.reduceSub, Int.reduceMul, Int.reduceToNat, Int.reduceBEq, Int.reduceBNe, fillP, fillE, okE, okW, bound, elS, srcS, Fin, finish, ress, resOf, one, keeps, ↓reduceIte, Dl.ap, Dl.slots, okD, isLp, zeros, reduceCtorEq, zdj, zdk, lp_pack_Reader_width_2, jn_pack_Reader_width_1, hk, hk0, hg, Int.toNat_natCast, hb0, hb8, hx3, ge_iff_le, hx2, hw]
        · have hx3 : (128 : Int) ≤ x := by omega
          rw [e3 (by rw [hn, if_pos (.inr ⟨h88, hx3⟩)])]
          simp (maxSteps := 4000000) only [↓set16, ↓sl16, zaa, zab, zac, zad, zz0, zz1, zz2, zz3, zz4, zae, zaf, zag, zah, zai, zaj, zak, zal, zam, zan, zao, zap, zaq, zar, zas, zat, zau, zav, zaw, zax, zay, zaz, zba, zbb, zbc, zbd, zbe, zbf, zbg, zbh, zbi, zbj, zbk, zbl, zbm, zbn, zbo, zbp, zbq, zbr, zbs, zbt, zbu, zbv, zbw, zbx, zby, zbz, zca, zcb, zcc, zcd, zce, zcf, zcg, zch, zci, zcj, zck, zcl, zcm, zcn, ne_eq, zco, zcp, zcq, zcr, zcs, List.replicate, zct, zcu, zcv, zcw, zcx, zcy, zcz, zda, zdb, zdc, zdd, zde, zdf, zdg, zdh, zdi, killT, delta, tak, ev, ad, taks, evs, nL, getH, pack, arith, callD, Nat.reduceAdd, Nat.reduceSub, Nat.reduceMul, Nat.reduceLeDiff, Nat.reduceEqDiff, Nat.reduceBEq, Nat.reduceBNe, Nat.reduceLT, Nat.reduceDiv, Int.reduceNeg, Int.reduceLT, Int.reduceLE, Int.reduceEq, Int.reduceNe, Int.reduceAdd, Int.reduceSub, Int.reduceMul, Int.reduceToNat, Int.reduceBEq, Int.reduceBNe, fillP, fillE, okE, okW, bound, elS, srcS, Fin, finish, ress, resOf, one, keeps, ↓reduceIte, Dl.ap, Dl.slots, okD, isLp, zeros, reduceCtorEq, zdj, zdk, lp_pack_Reader_width_2, jn_pack_Reader_width_1, hk, hk0, hg, Int.toNat_natCast, hb0, hb8, hx3, ge_iff_le, hF3]
      · have hb8 : ((acc : Int) == 8) = false := by
          rw [beq_eq_false_iff_ne]; omega
        rw [if_neg (by omega)] at hn
        by_cases hx2 : x < 128
        · rw [if_pos hx2] at hn
          rw [e0 hn]
          simp (maxSteps := 4000000) only [↓set16, ↓sl16, zaa, zab, zac, zad, zz0, zz1, zz2, zz3, zz4, zae, zaf, zag, zah, zai, zaj, zak, zal, zam, zan, zao, zap, zaq, zar, zas, zat, zau, zav, zaw, zax, zay, zaz, zba, zbb, zbc, zbd, zbe, zbf, zbg, zbh, zbi, zbj, zbk, zbl, zbm, zbn, zbo, zbp, zbq, zbr, zbs, zbt, zbu, zbv, zbw, zbx, zby, zbz, zca, zcb, zcc, zcd, zce, zcf, zcg, zch, zci, zcj, zck, zcl, zcm, zcn, ne_eq, zco, zcp, zcq, zcr, zcs, List.replicate, zct, zcu, zcv, zcw, zcx, zcy, zcz, zda, zdb, zdc, zdd, zde, zdf, zdg, zdh, zdi, killT, delta, tak, ev, ad, taks, evs, nL, getH, pack, arith, callD, Nat.reduceAdd, Nat.reduceSub, Nat.reduceMul, Nat.reduceLeDiff, Nat.reduceEqDiff, Nat.reduceBEq, Nat.reduceBNe, Nat.reduceLT, Nat.reduceDiv, Int.reduceNeg, Int.reduceLT, Int.reduceLE, Int.reduceEq, Int.reduceNe, Int.reduceAdd, Int.reduceSub, Int.reduceMul, Int.reduceToNat, Int.reduceBEq, Int.reduceBNe, fillP, fillE, okE, okW, bound, elS, srcS, Fin, finish, ress, resOf, one, keeps, ↓reduceIte, Dl.ap, Dl.slots, okD, isLp, zeros, reduceCtorEq, zdj, zdk, lp_pack_Reader_width_2, jn_pack_Reader_width_1, hk, hk0, hg, Int.toNat_natCast, hb0, hb8, hx2, hw]
        · rw [if_neg hx2] at hn
          rw [hn]
          have hgo := ih (acc + 1) ⟨rfl, by omega⟩
          simp (maxSteps := 4000000) only [↓set16, ↓sl16, zaa, zab, zac, zad, zz0, zz1, zz2, zz3, zz4, zae, zaf, zag, zah, zai, zaj, zak, zal, zam, zan, zao, zap, zaq, zar, zas, zat, zau, zav, zaw, zax, zay, zaz, zba, zbb, zbc, zbd, zbe, zbf, zbg, zbh, zbi, zbj, zbk, zbl, zbm, zbn, zbo, zbp, zbq, zbr, zbs, zbt, zbu, zbv, zbw, zbx, zby, zbz, zca, zcb, zcc, zcd, zce, zcf, zcg, zch, zci, zcj, zck, zcl, zcm, zcn, ne_eq, zco, zcp, zcq, zcr, zcs, List.replicate, zct, zcu, zcv, zcw, zcx, zcy, zcz, zda, zdb, zdc, zdd, zde, zdf, zdg, zdh, zdi, killT, delta, tak, ev, ad, taks, evs, nL, getH, pack, arith, callD, Nat.reduceAdd, Nat.reduceSub, Nat.reduceMul, Nat.reduceLeDiff, Nat.reduceEqDiff, Nat.reduceBEq, Nat.reduceBNe, Nat.reduceLT, Nat.reduceDiv, Int.reduceNeg, Int.reduceLT, Int.reduceLE, Int.reduceEq, Int.reduceNe, Int.reduceAdd, Int.reduceSub, Int.reduceMul, Int.reduceToNat, Int.reduceBEq, Int.reduceBNe, fillP, fillE, okE, okW, bound, elS, srcS, Fin, finish, ress, resOf, one, keeps, ↓reduceIte, Dl.ap, Dl.slots, okD, isLp, zeros, reduceCtorEq, zdj, zdk, lp_pack_Reader_width_2, jn_pack_Reader_width_1, hk, hk0, hg, Int.toNat_natCast, hb0, hb8, hx2, hw]
          exact hgo
/-- A reader's state: what is left, its error. -/
abbrev RSt := List Int × Int
def rN (m : Int) (s : RSt) : Int × RSt := if s.2 = 0 then (if (rdNum s.1 m).2.2 = 0 then ((rdNum s.1 m).1, (s.1.drop (rdNum s.1 m).2.1.toNat, 0)) else (0, ([], (rdNum s.1 m).2.2))) else (0, s)
/-- A reader that was opened, in a box. -/
structure PR (H0 : Heap) (i : Nat) (s : RSt) (H : Heap) : Prop where
  ex : ∃ c, H = H0.set i [c, .int .i64 s.2, .bool true] ∧ c.shr0 = .sl .shr (bl s.1)
  lt : i < H0.length
  by_ : ∀ x ∈ s.1, 0 ≤ x ∧ x ≤ 255
  len : s.1.length ≤ 4000000
  er : s.2 ≠ 0 → s.1 = []
theorem andNot8x {x : Int} (h : 0 ≤ x ∧ x ≤ 255) : IntKind.u8.wrap (BitVec.ofInt IntKind.u8.bits x &&& ~~~BitVec.ofInt IntKind.u8.bits 128).toNat = x % 128 := by
  have := andNot8w x
  rw [IntWalk.u8_in x h] at this
  exact this
theorem or7x {n y : Int} (h0 : 0 ≤ n) (h1 : n < 72057594037927936) (hy0 : 0 ≤ y) (hy1 : y < 128) : IntKind.i64.wrap (BitVec.ofInt IntKind.i64.bits (n * 128) ||| BitVec.ofInt IntKind.i64.bits y).toNat = n * 128 + y := or7 n y h0 h1 hy0 hy1
def numF (a : Int) (l : List Int) : Int := l.foldl (fun n x => n * 128 + x % 128) a
theorem pow128 (k : Nat) (h : k ≤ 8) : (128 : Int) ^ k ≤ 72057594037927936 := by
  have : (128 : Nat) ^ k ≤ 128 ^ 8 := Nat.pow_le_pow_right (by decide) h
  have h2 : (128 : Int) ^ k ≤ 128 ^ 8 := by exact_mod_cast this
  have h3 : (128 : Int) ^ 8 = 72057594037927936 := by decide
  omega
def numR (H : Heap) (i : Nat) (m : Int) (rest : List Int) (v : Int) : Ret := if m < v then ⟨.int .i64 0, H.set i [.sl .shr [], .int .i64 5, .bool true], false⟩ else ⟨.int .i64 v, H.set i [.sl .shr (bl rest), .int .i64 0, .bool true], false⟩
theorem pk_num_loop {m : Int} {T rest : List Int} (hi : i < H.length) (hT : ∀ x ∈ T, 0 ≤ x ∧ x ≤ 255) (hl : T.length ≤ 9) :
    Run ⟨CT, true, [TRes.tmp 4], numR H i m rest (numF 0 T)⟩ [Fr.blk 0, Fr.seq (((TC.reg [{ d := some 27, op := .mv false (.s 5), g := none }, { d := some 28, op := .mv false (.s 1), g := none }, { d := some 29, op := .ar BinOp.gtr (.s 27) (.s 28), g := none }] [1, 14, 15, 16, 17, 27, 28]).seq (TC.cond (.s 29) (TC.reg [{ d := some 30, op := .mv false (.s 0), g := none }, { d := some 31, op := .call 0 n_pack_Reader_Fail [(false, .s 30), (false, .c (.int IntKind.i64 5))], g := none }] [29, 30, 31]) TC.skip)).seq jn_pack_Reader_Num_2)] (.loop lp_pack_Reader_Num_1)
      ⟨(.ptr i 0 :: .int .i64 m :: TV.tup [] :: TV.tup [] :: TV.junk :: .int .i64 0 :: TV.tup [] :: TV.junk :: TV.junk :: TV.junk :: TV.junk :: TV.junk :: TV.junk :: TV.junk :: .sl .shr (bl T) :: .int .i64 T.length :: .int .i64 0 :: TV.junk :: TV.junk :: TV.junk :: TV.junk :: TV.junk :: TV.junk :: TV.junk :: TV.junk :: TV.junk :: TV.junk :: TV.tup [] :: TV.tup [] :: TV.tup [] :: TV.tup [] :: TV.tup [] :: TV.tup [] :: TV.tup [] :: TV.tup [] :: TV.tup [] :: []), H.set i [.sl .shr (bl rest), .int .i64 0, .bool true], H.length, false⟩ := by
  have hlive : live (H.set i [.sl .shr (bl rest), .int .i64 0, .bool true]) i = some [.sl .shr (bl rest), .int .i64 0, .bool true] := live_set2 hi
  have hlive5 : live (H.set i [.sl .shr [], .int .i64 5, .bool true]) i = some [.sl .shr [], .int .i64 5, .bool true] := live_set2 hi
  have hw := pk_works hlive
  rw [show ((0 : Int) == 0) = true from rfl] at hw
  have hw5 := pk_works hlive5
  rw [show ((5 : Int) == 0) = false from rfl] at hw5
  have hF := pk_Fail (x := 5) hlive (by decide)
  rw [List.set_set] at hF
  have hlenG : (H.set i [.sl .shr (bl rest), .int .i64 0, .bool true]).length = H.length := List.length_set
  refine loopI T (by omega) (fun acc suf => numR H i m rest (numF acc suf)) (fun k acc => ⟨(.ptr i 0 :: .int .i64 m :: TV.tup [] :: TV.tup [] :: TV.junk :: .int .i64 acc :: TV.tup [] :: TV.junk :: TV.junk :: TV.junk :: TV.junk :: TV.junk :: TV.junk :: TV.junk :: .sl .shr (bl T) :: .int .i64 T.length :: .int .i64 k :: TV.junk :: TV.junk :: TV.junk :: TV.junk :: TV.junk :: TV.junk :: TV.junk :: TV.junk :: TV.junk :: TV.junk :: TV.tup [] :: TV.tup [] :: TV.tup [] :: TV.tup [] :: TV.tup [] :: TV.tup [] :: TV.tup [] :: TV.tup [] :: TV.tup [] :: []), H.set i [.sl .shr (bl rest), .int .i64 0, .bool true], H.length, false⟩) (fun k acc => 0 ≤ acc ∧ acc < 128 ^ k) ?_ ?_ 0 (by decide)
  · intro acc hi2 hq
    have e : numF acc [] = acc := rfl
    rw [e, Run_loop]
    unfold numR
    by_cases hv : m < acc
    · rw [if_pos hv]
      simp (maxSteps := 4000000) only [↓set16, ↓sl16, zaa, zab, zac, zad, zz0, zz1, zz2, zz3, zz4, zae, zaf, zag, zah, zai, zaj, zak, zal, zam, zan, zao, zap, zaq, zar, zas, zat, zau, zav, zaw, zax, zay, zaz, zba, zbb, zbc, zbd, zbe, zbf, zbg, zbh, zbi, zbj, zbk, zbl, zbm, zbn, zbo, zbp, zbq, zbr, zbs, zbt, zbu, zbv, zbw, zbx, zby, zbz, zca, zcb, zcc, zcd, zce, zcf, zcg, zch, zci, zcj, zck, zcl, zcm, zcn, ne_eq, zco, zcp, zcq, zcr, zcs, List.replicate, zct, zcu, zcv, zcw, zcx, zcy, zcz, zda, zdb, zdc, zdd, zde, zdf, zdg, zdh, zdi, killT, delta, tak, ev, ad, taks, evs, nL, getH, pack, arith, callD, Nat.reduceAdd, Nat.reduceSub, Nat.reduceMul, Nat.reduceLeDiff, Nat.reduceEqDiff, Nat.reduceBEq, Nat.reduceBNe, Nat.reduceLT, Nat.reduceDiv, Int.reduceNeg, Int.reduceLT, Int.reduceLE, Int.reduceEq, Int.reduceNe, Int.reduceAdd, Int.reduceSub, Int.reduceMul, Int.reduceToNat, Int.reduceBEq, Int.reduceBNe, fillP, fillE, okE, okW, bound, elS, srcS, Fin, finish, ress, resOf, one, keeps, ↓reduceIte, Dl.ap, Dl.slots, okD, isLp, zeros, reduceCtorEq, zdj, zdk, lp_pack_Reader_Num_1, jn_pack_Reader_Num_2, hq, gt_iff_lt, hv, hF, hw5]
    · rw [if_neg hv]
      simp (maxSteps := 4000000) only [↓set16, ↓sl16, zaa, zab, zac, zad, zz0, zz1, zz2, zz3, zz4, zae, zaf, zag, zah, zai, zaj, zak, zal, zam, zan, zao, zap, zaq, zar, zas, zat, zau, zav, zaw, zax, zay, zaz, zba, zbb, zbc, zbd, zbe, zbf, zbg, zbh, zbi, zbj, zbk, zbl, zbm, zbn, zbo, zbp, zbq, zbr, zbs, zbt, zbu, zbv, zbw, zbx, zby, zbz, zca, zcb, zcc, zcd, zce, zcf, zcg, zch, zci, zcj, zck, zcl, zcm, zcn, ne_eq, zco, zcp, zcq, zcr, zcs, List.replicate, zct, zcu, zcv, zcw, zcx, zcy, zcz, zda, zdb, zdc, zdd, zde, zdf, zdg, zdh, zdi, killT, delta, tak, ev, ad, taks, evs, nL, getH, pack, arith, callD, Nat.reduceAdd, Nat.reduceSub, Nat.reduceMul, Nat.reduceLeDiff, Nat.reduceEqDiff, Nat.reduceBEq, Nat.reduceBNe, Nat.reduceLT, Nat.reduceDiv, Int.reduceNeg, Int.reduceLT, Int.reduceLE, Int.reduceEq, Int.reduceNe, Int.reduceAdd, Int.reduceSub, Int.reduceMul, Int.reduceToNat, Int.reduceBEq, Int.reduceBNe, fillP, fillE, okE, okW, bound, elS, srcS, Fin, finish, ress, resOf, one, keeps, ↓reduceIte, Dl.ap, Dl.slots, okD, isLp, zeros, reduceCtorEq, zdj, zdk, lp_pack_Reader_Num_1, jn_pack_Reader_Num_2, hq, gt_iff_lt, hv, hw]
  · rintro k x acc rest' ⟨h0, h1⟩ hx hk hk0 hw1 ih
    have hxb := hT x (List.mem_of_getElem? hx)
    have hp := pow128 k (by omega)
    have hg := bl_get hx
    have hs : IntKind.i64.wrap (acc * 2 ^ 7) = acc * 128 := IntWalk.i64_in _ (by omega)
    have hm7 : min 7 IntKind.i64.bits = 7 := rfl
    have ha := andNot8x hxb
    have hc2 : IntKind.i64.wrap (x % 128) = x % 128 := IntWalk.i64_in _ (by omega)
    have ho := or7x (n := acc) (y := x % 128) h0 (by omega) (by omega) (by omega)
    have hgo := ih (acc * 128 + x % 128) ⟨by omega, by rw [Int.pow_succ]; omega⟩
    have e : numF acc (x :: rest') = numF (acc * 128 + x % 128) rest' := rfl
    rw [e, Run_loop]
    simp (maxSteps := 4000000) only [↓set16, ↓sl16, zaa, zab, zac, zad, zz0, zz1, zz2, zz3, zz4, zae, zaf, zag, zah, zai, zaj, zak, zal, zam, zan, zao, zap, zaq, zar, zas, zat, zau, zav, zaw, zax, zay, zaz, zba, zbb, zbc, zbd, zbe, zbf, zbg, zbh, zbi, zbj, zbk, zbl, zbm, zbn, zbo, zbp, zbq, zbr, zbs, zbt, zbu, zbv, zbw, zbx, zby, zbz, zca, zcb, zcc, zcd, zce, zcf, zcg, zch, zci, zcj, zck, zcl, zcm, zcn, ne_eq, zco, zcp, zcq, zcr, zcs, List.replicate, zct, zcu, zcv, zcw, zcx, zcy, zcz, zda, zdb, zdc, zdd, zde, zdf, zdg, zdh, zdi, killT, delta, tak, ev, ad, taks, evs, nL, getH, pack, arith, callD, Nat.reduceAdd, Nat.reduceSub, Nat.reduceMul, Nat.reduceLeDiff, Nat.reduceEqDiff, Nat.reduceBEq, Nat.reduceBNe, Nat.reduceLT, Nat.reduceDiv, Int.reduceNeg, Int.reduceLT, Int.reduceLE, Int.reduceEq, Int.reduceNe, Int.reduceAdd, Int.reduceSub, Int.reduceMul, Int.reduceToNat, Int.reduceBEq, Int.reduceBNe, fillP, fillE, okE, okW, bound, elS, srcS, Fin, finish, ress, resOf, one, keeps, ↓reduceIte, Dl.ap, Dl.slots, okD, isLp, zeros, reduceCtorEq, zdj, zdk, lp_pack_Reader_Num_1, hk, hk0, hg, Int.toNat_natCast, hm7, hs, ha, hc2, ho, hw1, show ¬ (7 : Int) < 0 by decide]
    exact hgo
theorem pk_Num {m : Int} (hm : 0 ≤ m) (hl : live H i = some [c, .int .i64 0, .bool true]) (hc : c.shr0 = .sl .shr (bl b)) (hb : b.length ≤ 4000000) (hby : ∀ x ∈ b, 0 ≤ x ∧ x ≤ 255) :
    CT n_pack_Reader_Num [.ptr i 0, .int .i64 m] H = some ⟨.int .i64 (rN m (b, 0)).1, H.set i [.sl .shr (bl (rN m (b, 0)).2.1), .int .i64 (rN m (b, 0)).2.2, .bool true], false⟩ := by
  have hw := pk_works hl
  rw [show ((0 : Int) == 0) = true from rfl] at hw
  have hW := pk_width hl hc hb
  have hi := live_lt hl
  rcases numW_err b 0 with h0 | ⟨h0, h1⟩
  · have hle := numW_le b 0 (by omega) h0
    obtain ⟨n, hn⟩ := Int.eq_ofNat_of_zero_le (show 0 ≤ (numW 0 b).2 by omega)
    have hT := pk_take (n := n) hl hc (by omega)
    have e : widR H i (numW 0 b) = ⟨.int .i64 n, H, false⟩ := by unfold widR; rw [if_pos h0, hn]
    rw [e] at hW
    have hrd : rdNum b m = if m < numV (b.take n) then (0, 0, 5) else (numV (b.take n), (n : Int), 0) := by
      unfold rdNum; rw [if_pos h0, hn]; rfl
    have hgo := pk_num_loop (H := H) (i := i) (m := m) (T := b.take n) (rest := b.drop n) hi (fun x hx => hby x (List.mem_of_mem_take hx)) (by rw [List.length_take]; omega)
    have hR : numR H i m (b.drop n) (numF 0 (b.take n)) = ⟨.int .i64 (rN m (b, 0)).1, H.set i [.sl .shr (bl (rN m (b, 0)).2.1), .int .i64 (rN m (b, 0)).2.2, .bool true], false⟩ := by
      unfold numR rN
      rw [hrd]
      show (if m < numV (b.take n) then _ else _) = _
      by_cases hv : m < numV (b.take n)
      · rw [if_pos hv, if_pos hv, if_pos rfl, if_neg (by decide)]; rfl
      · rw [if_neg hv, if_neg hv, if_pos rfl, if_pos rfl]
        simp only [Int.toNat_natCast]; rfl
    rw [hR] at hgo
    refine callT_of rfl tab_pack_Reader_Num ?_
    simp (maxSteps := 4000000) only [↓set16, ↓sl16, zaa, zab, zac, zad, zz0, zz1, zz2, zz3, zz4, zae, zaf, zag, zah, zai, zaj, zak, zal, zam, zan, zao, zap, zaq, zar, zas, zat, zau, zav, zaw, zax, zay, zaz, zba, zbb, zbc, zbd, zbe, zbf, zbg, zbh, zbi, zbj, zbk, zbl, zbm, zbn, zbo, zbp, zbq, zbr, zbs, zbt, zbu, zbv, zbw, zbx, zby, zbz, zca, zcb, zcc, zcd, zce, zcf, zcg, zch, zci, zcj, zck, zcl, zcm, zcn, ne_eq, zco, zcp, zcq, zcr, zcs, List.replicate, zct, zcu, zcv, zcw, zcx, zcy, zcz, zda, zdb, zdc, zdd, zde, zdf, zdg, zdh, zdi, killT, delta, tak, ev, ad, taks, evs, nL, getH, pack, arith, callD, Nat.reduceAdd, Nat.reduceSub, Nat.reduceMul, Nat.reduceLeDiff, Nat.reduceEqDiff, Nat.reduceBEq, Nat.reduceBNe, Nat.reduceLT, Nat.reduceDiv, Int.reduceNeg, Int.reduceLT, Int.reduceLE, Int.reduceEq, Int.reduceNe, Int.reduceAdd, Int.reduceSub, Int.reduceMul, Int.reduceToNat, Int.reduceBEq, Int.reduceBNe, fillP, fillE, okE, okW, bound, elS, srcS, Fin, finish, ress, resOf, one, keeps, ↓reduceIte, Dl.ap, Dl.slots, okD, isLp, zeros, reduceCtorEq, zdj, zdk, tf_pack_Reader_Num, hw, hW, hT, bl_len]
    exact hgo
  · have hne : (numW 0 b).1 ≠ 0 := by omega
    have e : widR H i (numW 0 b) = ⟨.int .i64 0, H.set i [.sl .shr [], .int .i64 (numW 0 b).1, .bool true], false⟩ := by unfold widR; rw [if_neg hne]
    rw [e] at hW
    have hrd : rdNum b m = (0, 0, (numW 0 b).1) := by unfold rdNum; rw [if_neg hne]
    have hR : rN m (b, 0) = (0, ([], (numW 0 b).1)) := by unfold rN; rw [hrd, if_pos rfl, if_neg hne]
    rw [hR]
    have hlive : live (H.set i [.sl .shr [], .int .i64 (numW 0 b).1, .bool true]) i = some [.sl .shr [], .int .i64 (numW 0 b).1, .bool true] := live_set2 hi
    have hT := pk_take (n := 0) (b := []) hlive rfl (Nat.le_refl _)
    rw [List.set_set] at hT
    have hT' : CT n_pack_Reader_take [.ptr i 0, .int .i64 0] (H.set i [.sl .shr [], .int .i64 (numW 0 b).1, .bool true]) = some ⟨.sl .shr [], H.set i [.sl .shr [], .int .i64 (numW 0 b).1, .bool true], false⟩ := hT
    have hw2 := pk_works hlive
    rw [show ((numW 0 b).1 == 0) = false by simp [hne]] at hw2
    have hm' : ¬ m < 0 := by omega
    refine callT_of rfl tab_pack_Reader_Num ?_
    simp (maxSteps := 4000000) only [↓set16, ↓sl16, zaa, zab, zac, zad, zz0, zz1, zz2, zz3, zz4, zae, zaf, zag, zah, zai, zaj, zak, zal, zam, zan, zao, zap, zaq, zar, zas, zat, zau, zav, zaw, zax, zay, zaz, zba, zbb, zbc, zbd, zbe, zbf, zbg, zbh, zbi, zbj, zbk, zbl, zbm, zbn, zbo, zbp, zbq, zbr, zbs, zbt, zbu, zbv, zbw, zbx, zby, zbz, zca, zcb, zcc, zcd, zce, zcf, zcg, zch, zci, zcj, zck, zcl, zcm, zcn, ne_eq, zco, zcp, zcq, zcr, zcs, List.replicate, zct, zcu, zcv, zcw, zcx, zcy, zcz, zda, zdb, zdc, zdd, zde, zdf, zdg, zdh, zdi, killT, delta, tak, ev, ad, taks, evs, nL, getH, pack, arith, callD, Nat.reduceAdd, Nat.reduceSub, Nat.reduceMul, Nat.reduceLeDiff, Nat.reduceEqDiff, Nat.reduceBEq, Nat.reduceBNe, Nat.reduceLT, Nat.reduceDiv, Int.reduceNeg, Int.reduceLT, Int.reduceLE, Int.reduceEq, Int.reduceNe, Int.reduceAdd, Int.reduceSub, Int.reduceMul, Int.reduceToNat, Int.reduceBEq, Int.reduceBNe, fillP, fillE, okE, okW, bound, elS, srcS, Fin, finish, ress, resOf, one, keeps, ↓reduceIte, Dl.ap, Dl.slots, okD, isLp, zeros, reduceCtorEq, zdj, zdk, tf_pack_Reader_Num, jn_pack_Reader_Num_2, hw, hW, hT', Run_loop, lp_pack_Reader_Num_1, show ((0 : Nat) : Int) = 0 from rfl, Int.lt_irrefl, gt_iff_lt, hm', hw2]
    rfl
end Go.T
