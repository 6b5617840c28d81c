/- Any calls, one behind the other, make of a ledger what the document says. -/
import Derived.Test.YtmmmogcbmfmabaaOled14
set_option linter.unusedVariables false
set_option linter.unusedSimpArgs false
set_option maxRecDepth 10000
set_option pp.deepTerms true
set_option pp.maxSteps 1000000
set_option maxHeartbeats 1000000
namespace Go.T
attribute [local irreducible] Run Back RS Ap
/-- A call, as a value. -/
structure Dd where
  op : Int
  id : Int
  n : Int
  h : Hd
def Dd.tv (d : Dd) : TV := dov d.op d.id d.n d.h
theorem Dd.tv_eq (d : Dd) : d.tv = .agg [.int .i64 d.op, .int .i64 d.id, .int .i64 d.n, .int .i64 d.h.id, .int .i64 d.h.cl, .int .i64 d.h.nb, .int .i64 d.h.un, .int .i64 d.h.ti, .str d.h.sp] := rfl
theorem lives (quota : Int) (l : List Dd) (hq : I64 quota) (hl : ∀ d ∈ l, d.h.ok) (hm : l.length ≤ 9223372036854775807) : CT n_law19_LedgerLives [.int .i64 quota, .sl .shr (l.map Dd.tv)] [] = some ⟨.bool true, [], false⟩ := by
  obtain ⟨q, hqe, hq0, hq1⟩ : ∃ q : Int, IntKind.i64.wrap ((IntKind.u64.wrap quota).tmod 1099511627777) = q ∧ 0 ≤ q ∧ q ≤ 1099511627776 := by
    refine ⟨_, rfl, ?_⟩
    have h0 : 0 ≤ IntKind.u64.wrap quota := by simp [IntKind.wrap, IntKind.signed, IntKind.bits]; omega
    rw [Int.tmod_eq_emod_of_nonneg h0]
    generalize IntKind.u64.wrap quota = x at *
    rw [IntWalk.i64_in _ (by omega)]
    omega
  refine callT_of rfl tab_law19_LedgerLives ?_
  simp (maxSteps := 4000000) only [↓set16, ↓sl16, trim_set, lts_nil, trim_zero, trim_one, zz0, zz1, zz2, zz3, zz4, List.set_cons_zero, List.set_cons_succ, Bool.not_false, Bool.not_true, Bool.and_self, Bool.and_true, Bool.and_false, Bool.true_and, Bool.false_and, Bool.or_false, Bool.false_or, Bool.or_true, Bool.true_or, if_true, if_false, Bool.false_eq_true, List.getElem?_cons_zero, List.getElem?_cons_succ, List.map_cons, List.map_nil, List.headD_cons, List.all_cons, List.all_nil, List.append_nil, List.nil_append, List.cons_append, List.length_cons, List.length_nil, Nat.zero_add, Nat.add_zero, Nat.one_mul, Nat.mul_one, Nat.zero_mul, Nat.zero_le, Option.map_some, Option.map_none, List.drop_zero, List.drop_succ_cons, List.take_zero, List.take_succ_cons, List.drop_nil, List.take_nil, Option.isNone_none, Option.isSome_none, Option.isNone_some, Option.isSome_some, Option.bind_some, Option.bind_none, decide_true, decide_false, decide_eq_true_eq, decide_eq_false_iff_not, and_true, true_and, and_false, false_and, or_true, true_or, or_false, false_or, not_true_eq_false, not_false_eq_true, ne_eq, Bool.not_eq_true, Bool.not_eq_false, Bool.not_eq_eq_eq_not, eq_self, ite_self, List.replicate, Bool.and_eq_true, List.contains_nil, List.any_nil, List.any_cons, List.elem_nil, St.mk.injEq, List.foldl_cons, List.foldl_nil, flat_zeros, Bool.true_eq_false, Option.some.injEq, Ret.mk.injEq, and_self, TV.tup.injEq, List.cons.injEq, TV.int.injEq, killT, delta, tak, ev, ad, taks, evs, nL, getH, pack, arith, callD, Nat.reduceAdd, Nat.reduceSub, Nat.reduceMul, Nat.reduceLeDiff, Nat.reduceEqDiff, Nat.reduceBEq, Nat.reduceBNe, Nat.reduceLT, Nat.reduceDiv, Int.reduceNeg, Int.reduceLT, Int.reduceLE, Int.reduceEq, Int.reduceNe, Int.reduceAdd, Int.reduceSub, Int.reduceMul, Int.reduceToNat, Int.reduceBEq, Int.reduceBNe, fillP, fillE, okE, okW, bound, elS, srcS, Fin, finish, ress, resOf, one, keeps, ↓reduceIte, Dl.ap, Dl.slots, okD, isLp, zeros, reduceCtorEq, List.append_assoc, List.length_append, tf_law19_LedgerLives, jn_law19_LedgerLives_2, List.length_map, hqe]
  have hG : Good ⟨q, 0, 0, 1, []⟩ := ⟨⟨hq0, hq1⟩, by simp, by simp, by simp, by simp, rfl, rfl, rfl, by simp only; omega⟩
  have hO : (⟨q, 0, 0, 1, []⟩ : Lg).ok := ⟨by unfold I64; simp only; omega, by unfold I64; simp, by unfold I64; simp, by unfold I64; simp, by simp, by simp⟩
  refine loopI l hm (fun (acc : Lg × TV × TV) suf => ⟨.bool true, [], false⟩) (fun k acc => ⟨(TV.junk :: TV.junk :: TV.tup [] :: TV.tup [] :: TV.junk :: TV.junk :: .lbox [.int .i64 acc.1.q, .int .i64 acc.1.u, .int .i64 acc.1.he, .int .i64 acc.1.nx, acc.2.1] :: .lbox [.int .i64 acc.1.q, .int .i64 acc.1.u, .int .i64 acc.1.he, .int .i64 acc.1.nx, acc.2.2] :: TV.junk :: TV.junk :: TV.junk :: TV.junk :: TV.junk :: TV.junk :: TV.junk :: TV.junk :: TV.junk :: TV.junk :: .sl .shr (l.map Dd.tv) :: .int .i64 l.length :: .int .i64 k :: TV.junk :: TV.junk :: TV.junk :: TV.junk :: TV.junk :: TV.junk :: TV.junk :: TV.junk :: TV.junk :: TV.junk :: TV.junk :: TV.junk :: TV.junk :: TV.junk :: TV.junk :: TV.junk :: TV.junk :: TV.junk :: TV.junk :: TV.junk :: TV.junk :: TV.junk :: TV.junk :: TV.junk :: TV.junk :: TV.junk :: TV.junk :: TV.junk :: TV.junk :: TV.junk :: TV.junk :: TV.junk :: TV.tup [] :: []), [], 0, false⟩) (fun _ acc => Good acc.1 ∧ acc.1.ok ∧ RdL acc.2.1 acc.1.hs ∧ RdL acc.2.2 acc.1.hs) ?_ ?_ (⟨q, 0, 0, 1, []⟩, .sl .shr [], .nils) ⟨hG, hO, ⟨rfl, rfl⟩, ⟨rfl, rfl⟩⟩
  · rintro ⟨a, Va, Vb⟩ hi hq
    rw [Run_loop]
    simp (maxSteps := 4000000) only [↓set16, ↓sl16, trim_set, lts_nil, trim_zero, trim_one, zz0, zz1, zz2, zz3, zz4, List.set_cons_zero, List.set_cons_succ, Bool.not_false, Bool.not_true, Bool.and_self, Bool.and_true, Bool.and_false, Bool.true_and, Bool.false_and, Bool.or_false, Bool.false_or, Bool.or_true, Bool.true_or, if_true, if_false, Bool.false_eq_true, List.getElem?_cons_zero, List.getElem?_cons_succ, List.map_cons, List.map_nil, List.headD_cons, List.all_cons, List.all_nil, List.append_nil, List.nil_append, List.cons_append, List.length_cons, List.length_nil, Nat.zero_add, Nat.add_zero, Nat.one_mul, Nat.mul_one, Nat.zero_mul, Nat.zero_le, Option.map_some, Option.map_none, List.drop_zero, List.drop_succ_cons, List.take_zero, List.take_succ_cons, List.drop_nil, List.take_nil, Option.isNone_none, Option.isSome_none, Option.isNone_some, Option.isSome_some, Option.bind_some, Option.bind_none, decide_true, decide_false, decide_eq_true_eq, decide_eq_false_iff_not, and_true, true_and, and_false, false_and, or_true, true_or, or_false, false_or, not_true_eq_false, not_false_eq_true, ne_eq, Bool.not_eq_true, Bool.not_eq_false, Bool.not_eq_eq_eq_not, eq_self, ite_self, List.replicate, Bool.and_eq_true, List.contains_nil, List.any_nil, List.any_cons, List.elem_nil, St.mk.injEq, List.foldl_cons, List.foldl_nil, flat_zeros, Bool.true_eq_false, Option.some.injEq, Ret.mk.injEq, and_self, TV.tup.injEq, List.cons.injEq, TV.int.injEq, killT, delta, tak, ev, ad, taks, evs, nL, getH, pack, arith, callD, Nat.reduceAdd, Nat.reduceSub, Nat.reduceMul, Nat.reduceLeDiff, Nat.reduceEqDiff, Nat.reduceBEq, Nat.reduceBNe, Nat.reduceLT, Nat.reduceDiv, Int.reduceNeg, Int.reduceLT, Int.reduceLE, Int.reduceEq, Int.reduceNe, Int.reduceAdd, Int.reduceSub, Int.reduceMul, Int.reduceToNat, Int.reduceBEq, Int.reduceBNe, fillP, fillE, okE, okW, bound, elS, srcS, Fin, finish, ress, resOf, one, keeps, ↓reduceIte, Dl.ap, Dl.slots, okD, isLp, zeros, reduceCtorEq, List.append_assoc, List.length_append, lp_law19_LedgerLives_1, hq, awake_ok]
  · rintro k d ⟨a, Va, Vb⟩ rest ⟨hg, ho, ha, hb⟩ hx hk hk0 hw ih
    simp only at hg ho ha hb
    have hge := map_get (f := Dd.tv) hx
    rw [Dd.tv_eq] at hge
    rw [Run_loop]
    by_cases h60 : (60 : Int) ≤ k
    · simp (maxSteps := 4000000) only [↓set16, ↓sl16, trim_set, lts_nil, trim_zero, trim_one, zz0, zz1, zz2, zz3, zz4, List.set_cons_zero, List.set_cons_succ, Bool.not_false, Bool.not_true, Bool.and_self, Bool.and_true, Bool.and_false, Bool.true_and, Bool.false_and, Bool.or_false, Bool.false_or, Bool.or_true, Bool.true_or, if_true, if_false, Bool.false_eq_true, List.getElem?_cons_zero, List.getElem?_cons_succ, List.map_cons, List.map_nil, List.headD_cons, List.all_cons, List.all_nil, List.append_nil, List.nil_append, List.cons_append, List.length_cons, List.length_nil, Nat.zero_add, Nat.add_zero, Nat.one_mul, Nat.mul_one, Nat.zero_mul, Nat.zero_le, Option.map_some, Option.map_none, List.drop_zero, List.drop_succ_cons, List.take_zero, List.take_succ_cons, List.drop_nil, List.take_nil, Option.isNone_none, Option.isSome_none, Option.isNone_some, Option.isSome_some, Option.bind_some, Option.bind_none, decide_true, decide_false, decide_eq_true_eq, decide_eq_false_iff_not, and_true, true_and, and_false, false_and, or_true, true_or, or_false, false_or, not_true_eq_false, not_false_eq_true, ne_eq, Bool.not_eq_true, Bool.not_eq_false, Bool.not_eq_eq_eq_not, eq_self, ite_self, List.replicate, Bool.and_eq_true, List.contains_nil, List.any_nil, List.any_cons, List.elem_nil, St.mk.injEq, List.foldl_cons, List.foldl_nil, flat_zeros, Bool.true_eq_false, Option.some.injEq, Ret.mk.injEq, and_self, TV.tup.injEq, List.cons.injEq, TV.int.injEq, killT, delta, tak, ev, ad, taks, evs, nL, getH, pack, arith, callD, Nat.reduceAdd, Nat.reduceSub, Nat.reduceMul, Nat.reduceLeDiff, Nat.reduceEqDiff, Nat.reduceBEq, Nat.reduceBNe, Nat.reduceLT, Nat.reduceDiv, Int.reduceNeg, Int.reduceLT, Int.reduceLE, Int.reduceEq, Int.reduceNe, Int.reduceAdd, Int.reduceSub, Int.reduceMul, Int.reduceToNat, Int.reduceBEq, Int.reduceBNe, fillP, fillE, okE, okW, bound, elS, srcS, Fin, finish, ress, resOf, one, keeps, ↓reduceIte, Dl.ap, Dl.slots, okD, isLp, zeros, reduceCtorEq, List.append_assoc, List.length_append, lp_law19_LedgerLives_1, hk, hk0, hge, Int.toNat_natCast, ge_iff_le, h60, awake_ok]
    have hdo := hl d (List.mem_of_getElem? hx)
    have hlen := hg.len
    obtain ⟨Va', Vb', r1, r2, hD⟩ := do_any (H := []) a ho d.op d.id d.n d.h hdo (by omega)
    have hg' := good_do a hg d.op d.id d.n d.h
    have ho' := ok_do a hg ho d.op d.id d.n d.h hdo
    have hC := ledger_Check (H := []) _ ho'
    rw [(good_iff _).2 hg'] at hC
    have hgo := ih (doL a d.op d.id d.n d.h, Va', Vb') ⟨hg', ho', r1, r2⟩
    generalize doL a d.op d.id d.n d.h = a' at *
    have f1 := hg'.fit
    have f2 := hg'.u
    have f3 := hg'.he
    have hw2 : IntKind.i64.wrap (a'.u + a'.he) = a'.u + a'.he := IntWalk.i64_in _ (by omega)
    have f4 : ¬ a'.q < a'.u + a'.he := by omega
    have a0 := ha.s
    have a1 := ha.c
    have b0 := hb.s
    have b1 := hb.c
    have a0' := r1.s
    have a1' := r1.c
    have b0' := r2.s
    have b1' := r2.c
    rw [Lg.tv_eq] at hD hC
    unfold Lg.tvw dov at hD
    simp only at hgo
    simp (maxSteps := 4000000) only [↓set16, ↓sl16, trim_set, lts_nil, trim_zero, trim_one, zz0, zz1, zz2, zz3, zz4, List.set_cons_zero, List.set_cons_succ, Bool.not_false, Bool.not_true, Bool.and_self, Bool.and_true, Bool.and_false, Bool.true_and, Bool.false_and, Bool.or_false, Bool.false_or, Bool.or_true, Bool.true_or, if_true, if_false, Bool.false_eq_true, List.getElem?_cons_zero, List.getElem?_cons_succ, List.map_cons, List.map_nil, List.headD_cons, List.all_cons, List.all_nil, List.append_nil, List.nil_append, List.cons_append, List.length_cons, List.length_nil, Nat.zero_add, Nat.add_zero, Nat.one_mul, Nat.mul_one, Nat.zero_mul, Nat.zero_le, Option.map_some, Option.map_none, List.drop_zero, List.drop_succ_cons, List.take_zero, List.take_succ_cons, List.drop_nil, List.take_nil, Option.isNone_none, Option.isSome_none, Option.isNone_some, Option.isSome_some, Option.bind_some, Option.bind_none, decide_true, decide_false, decide_eq_true_eq, decide_eq_false_iff_not, and_true, true_and, and_false, false_and, or_true, true_or, or_false, false_or, not_true_eq_false, not_false_eq_true, ne_eq, Bool.not_eq_true, Bool.not_eq_false, Bool.not_eq_eq_eq_not, eq_self, ite_self, List.replicate, Bool.and_eq_true, List.contains_nil, List.any_nil, List.any_cons, List.elem_nil, St.mk.injEq, List.foldl_cons, List.foldl_nil, flat_zeros, Bool.true_eq_false, Option.some.injEq, Ret.mk.injEq, and_self, TV.tup.injEq, List.cons.injEq, TV.int.injEq, killT, delta, tak, ev, ad, taks, evs, nL, getH, pack, arith, callD, Nat.reduceAdd, Nat.reduceSub, Nat.reduceMul, Nat.reduceLeDiff, Nat.reduceEqDiff, Nat.reduceBEq, Nat.reduceBNe, Nat.reduceLT, Nat.reduceDiv, Int.reduceNeg, Int.reduceLT, Int.reduceLE, Int.reduceEq, Int.reduceNe, Int.reduceAdd, Int.reduceSub, Int.reduceMul, Int.reduceToNat, Int.reduceBEq, Int.reduceBNe, fillP, fillE, okE, okW, bound, elS, srcS, Fin, finish, ress, resOf, one, keeps, ↓reduceIte, Dl.ap, Dl.slots, okD, isLp, zeros, reduceCtorEq, List.append_assoc, List.length_append, lp_law19_LedgerLives_1, hk, hk0, hge, Int.toNat_natCast, ge_iff_le, gt_iff_lt, h60, a0, a1, b0, b1, a0', a1', b0', b1', hD, hC, hw2, f4, hw]
    exact hgo
end Go.T
