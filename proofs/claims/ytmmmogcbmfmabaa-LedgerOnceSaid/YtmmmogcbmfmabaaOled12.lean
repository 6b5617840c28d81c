/- What the ledger's functions answer, on: Expire. -/
import Derived.Test.YtmmmogcbmfmabaaOled11
set_option linter.unusedVariables false
set_option linter.unusedSimpArgs false
set_option maxRecDepth 10000
set_option pp.deepTerms true
set_option pp.maxSteps 1000000
set_option maxHeartbeats 1000000
namespace Go.T
attribute [local irreducible] Run Back RS Ap
variable {H : Heap}
theorem expS_app (now : Int) (a b : List Hd) : expS now (a ++ b) = expS now a + expS now b := by
  induction a with
  | nil => rw [List.nil_append, expS, Int.zero_add]
  | cons x a ih => rw [List.cons_append, expS, expS, ih]; split <;> omega
theorem expN_app (now : Int) (a b : List Hd) : expN now (a ++ b) = expN now a + expN now b := by
  induction a with
  | nil => rw [List.nil_append, expN, Nat.zero_add]
  | cons x a ih => rw [List.cons_append, expN, expN, ih]; split <;> omega
theorem expL_app (now : Int) (a b : List Hd) : expL now (a ++ b) = expL now a ++ expL now b := List.filter_append ..
theorem exp_loop (q u nx now : Int) (m : Nat) : ∀ (P S : List Hd) (z : List TV) (he : Int) (n : Nat), P.length = m → m + S.length + n ≤ 1000000 → z.map TV.shr0 = z → dead (row (P ++ S) ++ z) = false → I64 he →
    Run ⟨CT, true, [TRes.cell 4 true 5, TRes.tmp 5], ⟨.tup [.agg [.int .i64 q, .int .i64 u, .int .i64 (IntKind.i64.wrap (he - expS now P)), .int .i64 nx, sln (expL now P ++ S)], .int .i64 ((n + expN now P : Nat) : Int)], H, false⟩⟩ [Fr.blk 0, Fr.seq ((TC.reg [{ d := some 31, op := .ldl true true 5 2 (.s 2), g := none }, { d := some 32, op := .mv false (.s 6), g := none }, { d := none, op := .stl true 5 4 (.s 4) (.s 31), g := none }, { d := some 5, op := .mv false (.s 32), g := none }] []).seq TC.ret)] (.loop lp_ledger_Expire_1)
      ⟨(TV.junk :: .int .i64 now :: .lbox [.int .i64 q, .int .i64 u, .int .i64 he, .int .i64 nx, .asl true 6 H.length 0 (P ++ S).length] :: TV.tup [] :: .lbox [.int .i64 0, .int .i64 0, .int .i64 0, .int .i64 0, .nils] :: TV.junk :: .int .i64 n :: .int .i64 ((m : Int) - 1) :: TV.junk :: TV.junk :: TV.junk :: TV.junk :: TV.junk :: TV.junk :: TV.junk :: TV.junk :: TV.junk :: TV.junk :: TV.junk :: TV.junk :: TV.junk :: TV.junk :: TV.junk :: TV.junk :: TV.junk :: TV.junk :: TV.junk :: TV.junk :: TV.junk :: TV.junk :: TV.junk :: TV.tup [] :: TV.tup [] :: []), H ++ [row (P ++ S) ++ z], H.length, false⟩ := by
  induction m with
  | zero =>
    intro P S z he n hP hm hz hd hi
    have hP0 := List.eq_nil_of_length_eq_zero hP
    subst hP0
    rw [List.nil_append] at hd ⊢
    have hT := lg_trim (H := H) q u he nx n S z hz hd
    have e3 : IntKind.i64.wrap (he - expS now []) = he := by rw [expS, Int.sub_zero]; exact IntWalk.i64_in _ hi
    have e4 : expL now [] ++ S = S := rfl
    have w' : ¬ (0 : Int) ≤ ((0 : Nat) : Int) - 1 := by decide
    rw [e3, e4, expN, Nat.add_zero, Run_loop]
    simp (maxSteps := 4000000) only [↓set16, ↓sl16, trim_set, lts_nil, trim_zero, trim_one, zz0, zz1, zz2, zz3, zz4, List.set_cons_zero, List.set_cons_succ, Bool.not_false, Bool.not_true, Bool.and_self, Bool.and_true, Bool.and_false, Bool.true_and, Bool.false_and, Bool.or_false, Bool.false_or, Bool.or_true, Bool.true_or, if_true, if_false, Bool.false_eq_true, List.getElem?_cons_zero, List.getElem?_cons_succ, List.map_cons, List.map_nil, List.headD_cons, List.all_cons, List.all_nil, List.append_nil, List.nil_append, List.cons_append, List.length_cons, List.length_nil, Nat.zero_add, Nat.add_zero, Nat.one_mul, Nat.mul_one, Nat.zero_mul, Nat.zero_le, Option.map_some, Option.map_none, List.drop_zero, List.drop_succ_cons, List.take_zero, List.take_succ_cons, List.drop_nil, List.take_nil, Option.isNone_none, Option.isSome_none, Option.isNone_some, Option.isSome_some, Option.bind_some, Option.bind_none, decide_true, decide_false, decide_eq_true_eq, decide_eq_false_iff_not, and_true, true_and, and_false, false_and, or_true, true_or, or_false, false_or, not_true_eq_false, not_false_eq_true, ne_eq, Bool.not_eq_true, Bool.not_eq_false, Bool.not_eq_eq_eq_not, eq_self, ite_self, List.replicate, Bool.and_eq_true, List.contains_nil, List.any_nil, List.any_cons, List.elem_nil, St.mk.injEq, List.foldl_cons, List.foldl_nil, flat_zeros, Bool.true_eq_false, Option.some.injEq, Ret.mk.injEq, and_self, TV.tup.injEq, List.cons.injEq, TV.int.injEq, killT, delta, tak, ev, ad, taks, evs, nL, getH, pack, arith, callD, Nat.reduceAdd, Nat.reduceSub, Nat.reduceMul, Nat.reduceLeDiff, Nat.reduceEqDiff, Nat.reduceBEq, Nat.reduceBNe, Nat.reduceLT, Nat.reduceDiv, Int.reduceNeg, Int.reduceLT, Int.reduceLE, Int.reduceEq, Int.reduceNe, Int.reduceAdd, Int.reduceSub, Int.reduceMul, Int.reduceToNat, Int.reduceBEq, Int.reduceBNe, fillP, fillE, okE, okW, bound, elS, srcS, Fin, finish, ress, resOf, one, keeps, ↓reduceIte, Dl.ap, Dl.slots, okD, isLp, zeros, reduceCtorEq, List.append_assoc, List.length_append, lp_ledger_Expire_1, ge_iff_le, w', hT]
  | succ m ih =>
    intro P S z he n hP hm hz hd hi
    obtain ⟨P', x, rfl⟩ : ∃ P' x, P = P' ++ [x] := by
      refine ⟨P.dropLast, P.getLast (by intro h; rw [h] at hP; cases hP), (List.dropLast_concat_getLast _).symm⟩
    have hP' : P'.length = m := by rw [List.length_append, List.length_cons, List.length_nil] at hP; omega
    have e0 : (P' ++ [x]) ++ S = P' ++ x :: S := by simp
    rw [e0] at hd ⊢
    have hb : live (H ++ [row (P' ++ x :: S) ++ z]) H.length = some (row (P' ++ x :: S) ++ z) := live_app_eq hd
    have hlen : (P' ++ x :: S).length = m + (S.length + 1) := by rw [List.length_append, List.length_cons, hP']
    have q0 : (0 : Int) ≤ m := by omega
    have e9 : ((m + 1 : Nat) : Int) - 1 = m := by omega
    have hg : (P' ++ x :: S)[m]? = some x := by rw [← hP', List.getElem?_append_right (Nat.le_refl _), Nat.sub_self]; rfl
    have hc : cut (row (P' ++ x :: S) ++ z) (m * 6 + 3) 1 = some [.int .i64 x.un] := row_cut2 hg 3 (by omega)
    have q1 : ((m : Nat) : Int) < (m + (S.length + 1) : Nat) := by omega
    have hw1 : IntKind.i64.wrap ((m : Int) - 1) = (m : Int) - 1 := IntWalk.i64_in _ (by omega)
    rw [expS_app, expN_app, expL_app, e9, hlen, Run_loop]
    by_cases h1 : x.un < now
    · have hD := ledger_drop (H := H ++ [row (P' ++ x :: S) ++ z]) ⟨q, u, he, nx, P' ++ x :: S⟩ P' S x rfl z hb (by simp only [hlen]; omega)
      simp only [Lg.tvw, set_last] at hD
      rw [hP', hlen] at hD
      have hd2 : dead (row (P' ++ S) ++ (zc ++ z)) = false := by
        cases P' with
        | nil => cases S with
          | nil => rfl
          | cons => rfl
        | cons => rfl
      have hgo := ih P' S (zc ++ z) (IntKind.i64.wrap (he - x.nb)) (n + 1) hP' (by omega) (by rw [List.map_append, hz]; rfl) hd2 (by unfold I64; rw [IntKind.wrap_i64]; omega)
      have e1 : IntKind.i64.wrap (he - (expS now P' + expS now [x])) = IntKind.i64.wrap (IntKind.i64.wrap (he - x.nb) - expS now P') := by
        rw [wrap_wrap_sub, expS, if_pos h1, expS]; congr 1; omega
      have e2 : expL now P' ++ expL now [x] ++ S = expL now P' ++ S := by simp [expL, h1]
      have e3 : n + (expN now P' + expN now [x]) = n + 1 + expN now P' := by rw [expN, if_pos h1, expN]; omega
      have hw2 : IntKind.i64.wrap ((n : Int) + 1) = ((n + 1 : Nat) : Int) := IntWalk.i64_in _ (by omega)
      rw [e1, e2, e3]
      generalize hL : (P' ++ S).length = L at *
      simp (maxSteps := 4000000) only [↓set16, ↓sl16, trim_set, lts_nil, trim_zero, trim_one, zz0, zz1, zz2, zz3, zz4, List.set_cons_zero, List.set_cons_succ, Bool.not_false, Bool.not_true, Bool.and_self, Bool.and_true, Bool.and_false, Bool.true_and, Bool.false_and, Bool.or_false, Bool.false_or, Bool.or_true, Bool.true_or, if_true, if_false, Bool.false_eq_true, List.getElem?_cons_zero, List.getElem?_cons_succ, List.map_cons, List.map_nil, List.headD_cons, List.all_cons, List.all_nil, List.append_nil, List.nil_append, List.cons_append, List.length_cons, List.length_nil, Nat.zero_add, Nat.add_zero, Nat.one_mul, Nat.mul_one, Nat.zero_mul, Nat.zero_le, Option.map_some, Option.map_none, List.drop_zero, List.drop_succ_cons, List.take_zero, List.take_succ_cons, List.drop_nil, List.take_nil, Option.isNone_none, Option.isSome_none, Option.isNone_some, Option.isSome_some, Option.bind_some, Option.bind_none, decide_true, decide_false, decide_eq_true_eq, decide_eq_false_iff_not, and_true, true_and, and_false, false_and, or_true, true_or, or_false, false_or, not_true_eq_false, not_false_eq_true, ne_eq, Bool.not_eq_true, Bool.not_eq_false, Bool.not_eq_eq_eq_not, eq_self, ite_self, List.replicate, Bool.and_eq_true, List.contains_nil, List.any_nil, List.any_cons, List.elem_nil, St.mk.injEq, List.foldl_cons, List.foldl_nil, flat_zeros, Bool.true_eq_false, Option.some.injEq, Ret.mk.injEq, and_self, TV.tup.injEq, List.cons.injEq, TV.int.injEq, killT, delta, tak, ev, ad, taks, evs, nL, getH, pack, arith, callD, Nat.reduceAdd, Nat.reduceSub, Nat.reduceMul, Nat.reduceLeDiff, Nat.reduceEqDiff, Nat.reduceBEq, Nat.reduceBNe, Nat.reduceLT, Nat.reduceDiv, Int.reduceNeg, Int.reduceLT, Int.reduceLE, Int.reduceEq, Int.reduceNe, Int.reduceAdd, Int.reduceSub, Int.reduceMul, Int.reduceToNat, Int.reduceBEq, Int.reduceBNe, fillP, fillE, okE, okW, bound, elS, srcS, Fin, finish, ress, resOf, one, keeps, ↓reduceIte, Dl.ap, Dl.slots, okD, isLp, zeros, reduceCtorEq, List.append_assoc, List.length_append, lp_ledger_Expire_1, ge_iff_le, q0, q1, hb, hc, h1, hD, hw1, hw2, Int.toNat_natCast]
      exact hgo
    · have hgo := ih P' (x :: S) z he n hP' (by simp only [List.length_cons]; omega) hz hd hi
      have e1 : expS now P' + expS now [x] = expS now P' := by rw [expS, if_neg h1, expS, Int.add_zero]
      have e2 : expL now P' ++ expL now [x] ++ S = expL now P' ++ x :: S := by simp [expL, h1]
      have e3 : n + (expN now P' + expN now [x]) = n + expN now P' := by rw [expN, if_neg h1, expN]; omega
      rw [e1, e2, e3]
      rw [hlen] at hgo
      simp (maxSteps := 4000000) only [↓set16, ↓sl16, trim_set, lts_nil, trim_zero, trim_one, zz0, zz1, zz2, zz3, zz4, List.set_cons_zero, List.set_cons_succ, Bool.not_false, Bool.not_true, Bool.and_self, Bool.and_true, Bool.and_false, Bool.true_and, Bool.false_and, Bool.or_false, Bool.false_or, Bool.or_true, Bool.true_or, if_true, if_false, Bool.false_eq_true, List.getElem?_cons_zero, List.getElem?_cons_succ, List.map_cons, List.map_nil, List.headD_cons, List.all_cons, List.all_nil, List.append_nil, List.nil_append, List.cons_append, List.length_cons, List.length_nil, Nat.zero_add, Nat.add_zero, Nat.one_mul, Nat.mul_one, Nat.zero_mul, Nat.zero_le, Option.map_some, Option.map_none, List.drop_zero, List.drop_succ_cons, List.take_zero, List.take_succ_cons, List.drop_nil, List.take_nil, Option.isNone_none, Option.isSome_none, Option.isNone_some, Option.isSome_some, Option.bind_some, Option.bind_none, decide_true, decide_false, decide_eq_true_eq, decide_eq_false_iff_not, and_true, true_and, and_false, false_and, or_true, true_or, or_false, false_or, not_true_eq_false, not_false_eq_true, ne_eq, Bool.not_eq_true, Bool.not_eq_false, Bool.not_eq_eq_eq_not, eq_self, ite_self, List.replicate, Bool.and_eq_true, List.contains_nil, List.any_nil, List.any_cons, List.elem_nil, St.mk.injEq, List.foldl_cons, List.foldl_nil, flat_zeros, Bool.true_eq_false, Option.some.injEq, Ret.mk.injEq, and_self, TV.tup.injEq, List.cons.injEq, TV.int.injEq, killT, delta, tak, ev, ad, taks, evs, nL, getH, pack, arith, callD, Nat.reduceAdd, Nat.reduceSub, Nat.reduceMul, Nat.reduceLeDiff, Nat.reduceEqDiff, Nat.reduceBEq, Nat.reduceBNe, Nat.reduceLT, Nat.reduceDiv, Int.reduceNeg, Int.reduceLT, Int.reduceLE, Int.reduceEq, Int.reduceNe, Int.reduceAdd, Int.reduceSub, Int.reduceMul, Int.reduceToNat, Int.reduceBEq, Int.reduceBNe, fillP, fillE, okE, okW, bound, elS, srcS, Fin, finish, ress, resOf, one, keeps, ↓reduceIte, Dl.ap, Dl.slots, okD, isLp, zeros, reduceCtorEq, List.append_assoc, List.length_append, lp_ledger_Expire_1, ge_iff_le, q0, q1, hb, hc, h1, hw1, Int.toNat_natCast]
      exact hgo
theorem ledger_Expire (l : Lg) (hl : l.ok) (hm : l.hs.length ≤ 1000000) (now : Int) : CT n_ledger_Expire [l.tv, .int .i64 now] H = some ⟨.tup [.agg [.int .i64 l.q, .int .i64 l.u, .int .i64 (IntKind.i64.wrap (l.he - expS now l.hs)), .int .i64 l.nx, if l.hs.length = 0 then .nils else sln (expL now l.hs)], .int .i64 (expN now l.hs)], H, false⟩ := by
  have hO := ledger_own (H := H) l hm
  by_cases h0 : l.hs.length = 0
  · simp only [if_pos h0] at hO ⊢
    have hn := List.eq_nil_of_length_eq_zero h0
    have e1 : IntKind.i64.wrap (l.he - expS now l.hs) = l.he := by rw [hn, expS, Int.sub_zero]; exact IntWalk.i64_in _ hl.he
    have e2 : ((expN now l.hs : Nat) : Int) = 0 := by rw [hn]; rfl
    have w : IntKind.i64.wrap (((0 : Nat) : Int) - 1) = -1 := by decide
    have w' : ¬ (0 : Int) ≤ -1 := by decide
    rw [e1, e2]
    rw [Lg.tv_eq, hn, List.map_nil] at hO ⊢
    unfold Lg.tvw at hO
    refine callT_of rfl tab_ledger_Expire ?_
    simp (maxSteps := 4000000) only [↓set16, ↓sl16, trim_set, lts_nil, trim_zero, trim_one, zz0, zz1, zz2, zz3, zz4, List.set_cons_zero, List.set_cons_succ, Bool.not_false, Bool.not_true, Bool.and_self, Bool.and_true, Bool.and_false, Bool.true_and, Bool.false_and, Bool.or_false, Bool.false_or, Bool.or_true, Bool.true_or, if_true, if_false, Bool.false_eq_true, List.getElem?_cons_zero, List.getElem?_cons_succ, List.map_cons, List.map_nil, List.headD_cons, List.all_cons, List.all_nil, List.append_nil, List.nil_append, List.cons_append, List.length_cons, List.length_nil, Nat.zero_add, Nat.add_zero, Nat.one_mul, Nat.mul_one, Nat.zero_mul, Nat.zero_le, Option.map_some, Option.map_none, List.drop_zero, List.drop_succ_cons, List.take_zero, List.take_succ_cons, List.drop_nil, List.take_nil, Option.isNone_none, Option.isSome_none, Option.isNone_some, Option.isSome_some, Option.bind_some, Option.bind_none, decide_true, decide_false, decide_eq_true_eq, decide_eq_false_iff_not, and_true, true_and, and_false, false_and, or_true, true_or, or_false, false_or, not_true_eq_false, not_false_eq_true, ne_eq, Bool.not_eq_true, Bool.not_eq_false, Bool.not_eq_eq_eq_not, eq_self, ite_self, List.replicate, Bool.and_eq_true, List.contains_nil, List.any_nil, List.any_cons, List.elem_nil, St.mk.injEq, List.foldl_cons, List.foldl_nil, flat_zeros, Bool.true_eq_false, Option.some.injEq, Ret.mk.injEq, and_self, TV.tup.injEq, List.cons.injEq, TV.int.injEq, killT, delta, tak, ev, ad, taks, evs, nL, getH, pack, arith, callD, Nat.reduceAdd, Nat.reduceSub, Nat.reduceMul, Nat.reduceLeDiff, Nat.reduceEqDiff, Nat.reduceBEq, Nat.reduceBNe, Nat.reduceLT, Nat.reduceDiv, Int.reduceNeg, Int.reduceLT, Int.reduceLE, Int.reduceEq, Int.reduceNe, Int.reduceAdd, Int.reduceSub, Int.reduceMul, Int.reduceToNat, Int.reduceBEq, Int.reduceBNe, fillP, fillE, okE, okW, bound, elS, srcS, Fin, finish, ress, resOf, one, keeps, ↓reduceIte, Dl.ap, Dl.slots, okD, isLp, zeros, reduceCtorEq, List.append_assoc, List.length_append, tf_ledger_Expire, hO, w, Run_loop, lp_ledger_Expire_1, ge_iff_le, w']
  · simp only [if_neg h0] at hO ⊢
    rw [Lg.tv_eq] at hO ⊢
    unfold Lg.tvw at hO
    refine callT_of rfl tab_ledger_Expire ?_
    have hw : IntKind.i64.wrap ((l.hs.length : Int) - 1) = (l.hs.length : Int) - 1 := IntWalk.i64_in _ (by omega)
    simp (maxSteps := 4000000) only [↓set16, ↓sl16, trim_set, lts_nil, trim_zero, trim_one, zz0, zz1, zz2, zz3, zz4, List.set_cons_zero, List.set_cons_succ, Bool.not_false, Bool.not_true, Bool.and_self, Bool.and_true, Bool.and_false, Bool.true_and, Bool.false_and, Bool.or_false, Bool.false_or, Bool.or_true, Bool.true_or, if_true, if_false, Bool.false_eq_true, List.getElem?_cons_zero, List.getElem?_cons_succ, List.map_cons, List.map_nil, List.headD_cons, List.all_cons, List.all_nil, List.append_nil, List.nil_append, List.cons_append, List.length_cons, List.length_nil, Nat.zero_add, Nat.add_zero, Nat.one_mul, Nat.mul_one, Nat.zero_mul, Nat.zero_le, Option.map_some, Option.map_none, List.drop_zero, List.drop_succ_cons, List.take_zero, List.take_succ_cons, List.drop_nil, List.take_nil, Option.isNone_none, Option.isSome_none, Option.isNone_some, Option.isSome_some, Option.bind_some, Option.bind_none, decide_true, decide_false, decide_eq_true_eq, decide_eq_false_iff_not, and_true, true_and, and_false, false_and, or_true, true_or, or_false, false_or, not_true_eq_false, not_false_eq_true, ne_eq, Bool.not_eq_true, Bool.not_eq_false, Bool.not_eq_eq_eq_not, eq_self, ite_self, List.replicate, Bool.and_eq_true, List.contains_nil, List.any_nil, List.any_cons, List.elem_nil, St.mk.injEq, List.foldl_cons, List.foldl_nil, flat_zeros, Bool.true_eq_false, Option.some.injEq, Ret.mk.injEq, and_self, TV.tup.injEq, List.cons.injEq, TV.int.injEq, killT, delta, tak, ev, ad, taks, evs, nL, getH, pack, arith, callD, Nat.reduceAdd, Nat.reduceSub, Nat.reduceMul, Nat.reduceLeDiff, Nat.reduceEqDiff, Nat.reduceBEq, Nat.reduceBNe, Nat.reduceLT, Nat.reduceDiv, Int.reduceNeg, Int.reduceLT, Int.reduceLE, Int.reduceEq, Int.reduceNe, Int.reduceAdd, Int.reduceSub, Int.reduceMul, Int.reduceToNat, Int.reduceBEq, Int.reduceBNe, fillP, fillE, okE, okW, bound, elS, srcS, Fin, finish, ress, resOf, one, keeps, ↓reduceIte, Dl.ap, Dl.slots, okD, isLp, zeros, reduceCtorEq, List.append_assoc, List.length_append, tf_ledger_Expire, hO, hw]
    have hgo := exp_loop (H := H) l.q l.u l.nx now l.hs.length l.hs [] [] l.he 0 rfl (by simp; omega) rfl (by rw [List.append_nil, List.append_nil]; have := row_deadL h0; rw [List.append_nil] at this; exact this) hl.he
    simp only [List.append_nil, Nat.zero_add] at hgo
    exact hgo
end Go.T
