/- What the ledger's functions answer, on: Spend, Free, Quota, Expire, Find. -/
import Derived.Test.YtmmmogcbmfmabaaOled10
set_option linter.unusedVariables false
set_option linter.unusedSimpArgs false
set_option maxRecDepth 10000
set_option maxHeartbeats 1000000
namespace Go.T
attribute [local irreducible] Run Back RS Ap
variable {H : Heap}
theorem find_none {id : Int} {l : List Hd} (h : findH id l = none) : ∀ x ∈ l, x.id ≠ id := by
  induction l with
  | nil => intro x hx; cases hx
  | cons y l ih =>
    rw [findH] at h
    split at h
    · cases h
    · rename_i hy
      intro x hx
      rcases List.mem_cons.1 hx with rfl | hx
      · exact hy
      · exact ih h x hx
theorem relL_true (id : Int) (l : List Hd) : relL id true l = l := by
  induction l with
  | nil => rfl
  | cons y l ih => rw [relL, ih]
theorem find_some {id : Int} {l : List Hd} {h : Hd} (hf : findH id l = some h) : ∃ A B, l = A ++ h :: B ∧ (∀ x ∈ A, x.id ≠ id) ∧ h.id = id ∧ relL id false l = A ++ B := by
  induction l with
  | nil => cases hf
  | cons y l ih =>
    rw [findH] at hf
    split at hf
    · rename_i hy
      cases hf
      exact ⟨[], l, rfl, by simp, hy, by rw [relL, if_pos hy, relL_true]; rfl⟩
    · rename_i hy
      obtain ⟨A, B, rfl, h1, h2, h3⟩ := ih hf
      refine ⟨y :: A, B, rfl, ?_, h2, by rw [relL, if_neg hy, h3]; rfl⟩
      intro x hx
      rcases List.mem_cons.1 hx with rfl | hx
      · exact hy
      · exact h1 x hx
theorem idxF_find_none {id : Int} {l : List Hd} (h : findH id l = none) : idxF id 0 l = -1 := idxF_none (find_none h) 0
theorem ledger_Find_none (l : Lg) (hm : l.hs.length ≤ 1000000) (id : Int) (hn : findH id l.hs = none) : CT n_ledger_Find [l.tv, .int .i64 id] H = some ⟨findR id l.hs, H, false⟩ := by
  have hA := ledger_at_sl (H := H) l hm id
  rw [idxF_find_none hn] at hA
  have q : (-1 : Int) < 0 := by decide
  have e : findR id l.hs = .tup [.agg zc, .bool false] := by unfold findR; rw [hn]
  rw [e]
  rw [Lg.tv_eq] at hA ⊢
  unfold zc
  refine callT_of rfl tab_ledger_Find ?_
  simp (maxSteps := 4000000) only [↓set16, ↓sl16, trim_set, lts_nil, trim_zero, trim_one, zz0, zz1, zz2, zz3, zz4, List.set_cons_zero, List.set_cons_succ, Bool.not_false, Bool.not_true, Bool.and_self, Bool.and_true, Bool.and_false, Bool.true_and, Bool.false_and, Bool.or_false, Bool.false_or, Bool.or_true, Bool.true_or, if_true, if_false, Bool.false_eq_true, List.getElem?_cons_zero, List.getElem?_cons_succ, List.map_cons, List.map_nil, List.headD_cons, List.all_cons, List.all_nil, List.append_nil, List.nil_append, List.cons_append, List.length_cons, List.length_nil, Nat.zero_add, Nat.add_zero, Nat.one_mul, Nat.mul_one, Nat.zero_mul, Nat.zero_le, Option.map_some, Option.map_none, List.drop_zero, List.drop_succ_cons, List.take_zero, List.take_succ_cons, List.drop_nil, List.take_nil, Option.isNone_none, Option.isSome_none, Option.isNone_some, Option.isSome_some, Option.bind_some, Option.bind_none, decide_true, decide_false, decide_eq_true_eq, decide_eq_false_iff_not, and_true, true_and, and_false, false_and, or_true, true_or, or_false, false_or, not_true_eq_false, not_false_eq_true, ne_eq, Bool.not_eq_true, Bool.not_eq_false, Bool.not_eq_eq_eq_not, eq_self, ite_self, List.replicate, Bool.and_eq_true, List.contains_nil, List.any_nil, List.any_cons, List.elem_nil, St.mk.injEq, List.foldl_cons, List.foldl_nil, flat_zeros, Bool.true_eq_false, Option.some.injEq, Ret.mk.injEq, and_self, TV.tup.injEq, List.cons.injEq, TV.int.injEq, killT, delta, tak, ev, ad, taks, evs, nL, getH, pack, arith, callD, Nat.reduceAdd, Nat.reduceSub, Nat.reduceMul, Nat.reduceLeDiff, Nat.reduceEqDiff, Nat.reduceBEq, Nat.reduceBNe, Nat.reduceLT, Nat.reduceDiv, Int.reduceNeg, Int.reduceLT, Int.reduceLE, Int.reduceEq, Int.reduceNe, Int.reduceAdd, Int.reduceSub, Int.reduceMul, Int.reduceToNat, Int.reduceBEq, Int.reduceBNe, fillP, fillE, okE, okW, bound, elS, srcS, Fin, finish, ress, resOf, one, keeps, ↓reduceIte, Dl.ap, Dl.slots, okD, isLp, zeros, reduceCtorEq, List.append_assoc, List.length_append, tf_ledger_Find, hA, q]
theorem ledger_Find_some (l : Lg) (hm : l.hs.length ≤ 1000000) (id : Int) (h : Hd) (hn : findH id l.hs = some h) : CT n_ledger_Find [l.tv, .int .i64 id] H = some ⟨findR id l.hs, H, false⟩ := by
  obtain ⟨A, B, hs, h1, h2, h3⟩ := find_some hn
  have hA := ledger_at_sl (H := H) l hm id
  rw [hs, idxF_at h1 h2, Nat.zero_add] at hA
  have q : ¬ (A.length : Int) < 0 := by omega
  have q0 : (0 : Int) ≤ A.length := by omega
  have hg : (l.hs.map Hd.tv)[A.length]? = some h.tv := map_get (by rw [hs, List.getElem?_append_right (Nat.le_refl _), Nat.sub_self]; rfl)
  have e : findR id l.hs = .tup [.agg [.int .i64 h.id, .int .i64 h.cl, .int .i64 h.nb, .int .i64 h.un, .int .i64 h.ti, .str h.sp], .bool true] := by unfold findR; rw [hn]; rfl
  rw [e]
  rw [Hd.tv_eq] at hg
  rw [Lg.tv_eq] at hA ⊢
  refine callT_of rfl tab_ledger_Find ?_
  simp (maxSteps := 4000000) only [↓set16, ↓sl16, trim_set, lts_nil, trim_zero, trim_one, zz0, zz1, zz2, zz3, zz4, List.set_cons_zero, List.set_cons_succ, Bool.not_false, Bool.not_true, Bool.and_self, Bool.and_true, Bool.and_false, Bool.true_and, Bool.false_and, Bool.or_false, Bool.false_or, Bool.or_true, Bool.true_or, if_true, if_false, Bool.false_eq_true, List.getElem?_cons_zero, List.getElem?_cons_succ, List.map_cons, List.map_nil, List.headD_cons, List.all_cons, List.all_nil, List.append_nil, List.nil_append, List.cons_append, List.length_cons, List.length_nil, Nat.zero_add, Nat.add_zero, Nat.one_mul, Nat.mul_one, Nat.zero_mul, Nat.zero_le, Option.map_some, Option.map_none, List.drop_zero, List.drop_succ_cons, List.take_zero, List.take_succ_cons, List.drop_nil, List.take_nil, Option.isNone_none, Option.isSome_none, Option.isNone_some, Option.isSome_some, Option.bind_some, Option.bind_none, decide_true, decide_false, decide_eq_true_eq, decide_eq_false_iff_not, and_true, true_and, and_false, false_and, or_true, true_or, or_false, false_or, not_true_eq_false, not_false_eq_true, ne_eq, Bool.not_eq_true, Bool.not_eq_false, Bool.not_eq_eq_eq_not, eq_self, ite_self, List.replicate, Bool.and_eq_true, List.contains_nil, List.any_nil, List.any_cons, List.elem_nil, St.mk.injEq, List.foldl_cons, List.foldl_nil, flat_zeros, Bool.true_eq_false, Option.some.injEq, Ret.mk.injEq, and_self, TV.tup.injEq, List.cons.injEq, TV.int.injEq, killT, delta, tak, ev, ad, taks, evs, nL, getH, pack, arith, callD, Nat.reduceAdd, Nat.reduceSub, Nat.reduceMul, Nat.reduceLeDiff, Nat.reduceEqDiff, Nat.reduceBEq, Nat.reduceBNe, Nat.reduceLT, Nat.reduceDiv, Int.reduceNeg, Int.reduceLT, Int.reduceLE, Int.reduceEq, Int.reduceNe, Int.reduceAdd, Int.reduceSub, Int.reduceMul, Int.reduceToNat, Int.reduceBEq, Int.reduceBNe, fillP, fillE, okE, okW, bound, elS, srcS, Fin, finish, ress, resOf, one, keeps, ↓reduceIte, Dl.ap, Dl.slots, okD, isLp, zeros, reduceCtorEq, List.append_assoc, List.length_append, tf_ledger_Find, hA, q, q0, hg, Int.toNat_natCast]
theorem ledger_Free_err (l : Lg) (hm : l.hs.length ≤ 1000000) (n : Int) (hw : within n 0 l.u = false) : CT n_ledger_Free [l.tv, .int .i64 n] H = some ⟨.tup [l.tvw (ownV l.hs), .int .i64 1], H, false⟩ := by
  obtain ⟨r, hO, hT⟩ := own3 (H := H) l hm
  have hI := nums_Within (H := H) n 0 l.u
  have v0 := ownV_shr0 l.hs
  have v1 := ownV_cell l.hs
  generalize ownV l.hs = V at *
  rw [hw] at hI
  rw [Lg.tv_eq] at hO ⊢
  unfold Lg.tvw at hT ⊢
  refine callT_of rfl tab_ledger_Free ?_
  simp (maxSteps := 4000000) only [↓set16, ↓sl16, trim_set, lts_nil, trim_zero, trim_one, zz0, zz1, zz2, zz3, zz4, List.set_cons_zero, List.set_cons_succ, Bool.not_false, Bool.not_true, Bool.and_self, Bool.and_true, Bool.and_false, Bool.true_and, Bool.false_and, Bool.or_false, Bool.false_or, Bool.or_true, Bool.true_or, if_true, if_false, Bool.false_eq_true, List.getElem?_cons_zero, List.getElem?_cons_succ, List.map_cons, List.map_nil, List.headD_cons, List.all_cons, List.all_nil, List.append_nil, List.nil_append, List.cons_append, List.length_cons, List.length_nil, Nat.zero_add, Nat.add_zero, Nat.one_mul, Nat.mul_one, Nat.zero_mul, Nat.zero_le, Option.map_some, Option.map_none, List.drop_zero, List.drop_succ_cons, List.take_zero, List.take_succ_cons, List.drop_nil, List.take_nil, Option.isNone_none, Option.isSome_none, Option.isNone_some, Option.isSome_some, Option.bind_some, Option.bind_none, decide_true, decide_false, decide_eq_true_eq, decide_eq_false_iff_not, and_true, true_and, and_false, false_and, or_true, true_or, or_false, false_or, not_true_eq_false, not_false_eq_true, ne_eq, Bool.not_eq_true, Bool.not_eq_false, Bool.not_eq_eq_eq_not, eq_self, ite_self, List.replicate, Bool.and_eq_true, List.contains_nil, List.any_nil, List.any_cons, List.elem_nil, St.mk.injEq, List.foldl_cons, List.foldl_nil, flat_zeros, Bool.true_eq_false, Option.some.injEq, Ret.mk.injEq, and_self, TV.tup.injEq, List.cons.injEq, TV.int.injEq, killT, delta, tak, ev, ad, taks, evs, nL, getH, pack, arith, callD, Nat.reduceAdd, Nat.reduceSub, Nat.reduceMul, Nat.reduceLeDiff, Nat.reduceEqDiff, Nat.reduceBEq, Nat.reduceBNe, Nat.reduceLT, Nat.reduceDiv, Int.reduceNeg, Int.reduceLT, Int.reduceLE, Int.reduceEq, Int.reduceNe, Int.reduceAdd, Int.reduceSub, Int.reduceMul, Int.reduceToNat, Int.reduceBEq, Int.reduceBNe, fillP, fillE, okE, okW, bound, elS, srcS, Fin, finish, ress, resOf, one, keeps, ↓reduceIte, Dl.ap, Dl.slots, okD, isLp, zeros, reduceCtorEq, List.append_assoc, List.length_append, tf_ledger_Free, hO, hT, hI, v0, v1]
theorem ledger_Free_ok (l : Lg) (hm : l.hs.length ≤ 1000000) (n : Int) (hw : within n 0 l.u = true) : CT n_ledger_Free [l.tv, .int .i64 n] H = some ⟨.tup [.agg [.int .i64 l.q, .int .i64 (IntKind.i64.wrap (l.u - n)), .int .i64 l.he, .int .i64 l.nx, ownV l.hs], .int .i64 0], H, false⟩ := by
  obtain ⟨r, hO, hT⟩ := own3 (H := H) l hm
  have hI := nums_Within (H := H) n 0 l.u
  have v0 := ownV_shr0 l.hs
  have v1 := ownV_cell l.hs
  generalize ownV l.hs = V at *
  rw [hw] at hI
  rw [Lg.tv_eq] at hO ⊢
  unfold Lg.tvw at hT
  refine callT_of rfl tab_ledger_Free ?_
  simp (maxSteps := 4000000) only [↓set16, ↓sl16, trim_set, lts_nil, trim_zero, trim_one, zz0, zz1, zz2, zz3, zz4, List.set_cons_zero, List.set_cons_succ, Bool.not_false, Bool.not_true, Bool.and_self, Bool.and_true, Bool.and_false, Bool.true_and, Bool.false_and, Bool.or_false, Bool.false_or, Bool.or_true, Bool.true_or, if_true, if_false, Bool.false_eq_true, List.getElem?_cons_zero, List.getElem?_cons_succ, List.map_cons, List.map_nil, List.headD_cons, List.all_cons, List.all_nil, List.append_nil, List.nil_append, List.cons_append, List.length_cons, List.length_nil, Nat.zero_add, Nat.add_zero, Nat.one_mul, Nat.mul_one, Nat.zero_mul, Nat.zero_le, Option.map_some, Option.map_none, List.drop_zero, List.drop_succ_cons, List.take_zero, List.take_succ_cons, List.drop_nil, List.take_nil, Option.isNone_none, Option.isSome_none, Option.isNone_some, Option.isSome_some, Option.bind_some, Option.bind_none, decide_true, decide_false, decide_eq_true_eq, decide_eq_false_iff_not, and_true, true_and, and_false, false_and, or_true, true_or, or_false, false_or, not_true_eq_false, not_false_eq_true, ne_eq, Bool.not_eq_true, Bool.not_eq_false, Bool.not_eq_eq_eq_not, eq_self, ite_self, List.replicate, Bool.and_eq_true, List.contains_nil, List.any_nil, List.any_cons, List.elem_nil, St.mk.injEq, List.foldl_cons, List.foldl_nil, flat_zeros, Bool.true_eq_false, Option.some.injEq, Ret.mk.injEq, and_self, TV.tup.injEq, List.cons.injEq, TV.int.injEq, killT, delta, tak, ev, ad, taks, evs, nL, getH, pack, arith, callD, Nat.reduceAdd, Nat.reduceSub, Nat.reduceMul, Nat.reduceLeDiff, Nat.reduceEqDiff, Nat.reduceBEq, Nat.reduceBNe, Nat.reduceLT, Nat.reduceDiv, Int.reduceNeg, Int.reduceLT, Int.reduceLE, Int.reduceEq, Int.reduceNe, Int.reduceAdd, Int.reduceSub, Int.reduceMul, Int.reduceToNat, Int.reduceBEq, Int.reduceBNe, fillP, fillE, okE, okW, bound, elS, srcS, Fin, finish, ress, resOf, one, keeps, ↓reduceIte, Dl.ap, Dl.slots, okD, isLp, zeros, reduceCtorEq, List.append_assoc, List.length_append, tf_ledger_Free, hO, hT, hI, v0, v1]
theorem ledger_Quota_arg (l : Lg) (hm : l.hs.length ≤ 1000000) (n : Int) (hw : within n 0 1099511627776 = false) : CT n_ledger_Quota [l.tv, .int .i64 n] H = some ⟨.tup [l.tvw (ownV l.hs), .int .i64 1], H, false⟩ := by
  obtain ⟨r, hO, hT⟩ := own3 (H := H) l hm
  have hI := nums_Within (H := H) n 0 1099511627776
  have v0 := ownV_shr0 l.hs
  have v1 := ownV_cell l.hs
  generalize ownV l.hs = V at *
  rw [hw] at hI
  rw [Lg.tv_eq] at hO ⊢
  unfold Lg.tvw at hT ⊢
  refine callT_of rfl tab_ledger_Quota ?_
  simp (maxSteps := 4000000) only [↓set16, ↓sl16, trim_set, lts_nil, trim_zero, trim_one, zz0, zz1, zz2, zz3, zz4, List.set_cons_zero, List.set_cons_succ, Bool.not_false, Bool.not_true, Bool.and_self, Bool.and_true, Bool.and_false, Bool.true_and, Bool.false_and, Bool.or_false, Bool.false_or, Bool.or_true, Bool.true_or, if_true, if_false, Bool.false_eq_true, List.getElem?_cons_zero, List.getElem?_cons_succ, List.map_cons, List.map_nil, List.headD_cons, List.all_cons, List.all_nil, List.append_nil, List.nil_append, List.cons_append, List.length_cons, List.length_nil, Nat.zero_add, Nat.add_zero, Nat.one_mul, Nat.mul_one, Nat.zero_mul, Nat.zero_le, Option.map_some, Option.map_none, List.drop_zero, List.drop_succ_cons, List.take_zero, List.take_succ_cons, List.drop_nil, List.take_nil, Option.isNone_none, Option.isSome_none, Option.isNone_some, Option.isSome_some, Option.bind_some, Option.bind_none, decide_true, decide_false, decide_eq_true_eq, decide_eq_false_iff_not, and_true, true_and, and_false, false_and, or_true, true_or, or_false, false_or, not_true_eq_false, not_false_eq_true, ne_eq, Bool.not_eq_true, Bool.not_eq_false, Bool.not_eq_eq_eq_not, eq_self, ite_self, List.replicate, Bool.and_eq_true, List.contains_nil, List.any_nil, List.any_cons, List.elem_nil, St.mk.injEq, List.foldl_cons, List.foldl_nil, flat_zeros, Bool.true_eq_false, Option.some.injEq, Ret.mk.injEq, and_self, TV.tup.injEq, List.cons.injEq, TV.int.injEq, killT, delta, tak, ev, ad, taks, evs, nL, getH, pack, arith, callD, Nat.reduceAdd, Nat.reduceSub, Nat.reduceMul, Nat.reduceLeDiff, Nat.reduceEqDiff, Nat.reduceBEq, Nat.reduceBNe, Nat.reduceLT, Nat.reduceDiv, Int.reduceNeg, Int.reduceLT, Int.reduceLE, Int.reduceEq, Int.reduceNe, Int.reduceAdd, Int.reduceSub, Int.reduceMul, Int.reduceToNat, Int.reduceBEq, Int.reduceBNe, fillP, fillE, okE, okW, bound, elS, srcS, Fin, finish, ress, resOf, one, keeps, ↓reduceIte, Dl.ap, Dl.slots, okD, isLp, zeros, reduceCtorEq, List.append_assoc, List.length_append, tf_ledger_Quota, hO, hT, hI, v0, v1]
theorem ledger_Quota_held (l : Lg) (hl : l.ok) (hm : l.hs.length ≤ 1000000) (n : Int) (hw : within n 0 1099511627776 = true) (hf : fitB n 0 [l.u, l.he] = false) : CT n_ledger_Quota [l.tv, .int .i64 n] H = some ⟨.tup [l.tvw (ownV l.hs), .int .i64 22], H, false⟩ := by
  obtain ⟨r, hO, hT⟩ := own3 (H := H) l hm
  have hI := nums_Within (H := H) n 0 1099511627776
  have hF := ledger_fits (H := H) n [l.u, l.he] (by intro n hn; simp at hn; rcases hn with rfl | rfl; exact hl.u; exact hl.he) (by simp)
  rw [List.map_cons, List.map_cons, List.map_nil, hf] at hF
  have v0 := ownV_shr0 l.hs
  have v1 := ownV_cell l.hs
  generalize ownV l.hs = V at *
  rw [hw] at hI
  rw [Lg.tv_eq] at hO ⊢
  unfold Lg.tvw at hT ⊢
  refine callT_of rfl tab_ledger_Quota ?_
  simp (maxSteps := 4000000) only [↓set16, ↓sl16, trim_set, lts_nil, trim_zero, trim_one, zz0, zz1, zz2, zz3, zz4, List.set_cons_zero, List.set_cons_succ, Bool.not_false, Bool.not_true, Bool.and_self, Bool.and_true, Bool.and_false, Bool.true_and, Bool.false_and, Bool.or_false, Bool.false_or, Bool.or_true, Bool.true_or, if_true, if_false, Bool.false_eq_true, List.getElem?_cons_zero, List.getElem?_cons_succ, List.map_cons, List.map_nil, List.headD_cons, List.all_cons, List.all_nil, List.append_nil, List.nil_append, List.cons_append, List.length_cons, List.length_nil, Nat.zero_add, Nat.add_zero, Nat.one_mul, Nat.mul_one, Nat.zero_mul, Nat.zero_le, Option.map_some, Option.map_none, List.drop_zero, List.drop_succ_cons, List.take_zero, List.take_succ_cons, List.drop_nil, List.take_nil, Option.isNone_none, Option.isSome_none, Option.isNone_some, Option.isSome_some, Option.bind_some, Option.bind_none, decide_true, decide_false, decide_eq_true_eq, decide_eq_false_iff_not, and_true, true_and, and_false, false_and, or_true, true_or, or_false, false_or, not_true_eq_false, not_false_eq_true, ne_eq, Bool.not_eq_true, Bool.not_eq_false, Bool.not_eq_eq_eq_not, eq_self, ite_self, List.replicate, Bool.and_eq_true, List.contains_nil, List.any_nil, List.any_cons, List.elem_nil, St.mk.injEq, List.foldl_cons, List.foldl_nil, flat_zeros, Bool.true_eq_false, Option.some.injEq, Ret.mk.injEq, and_self, TV.tup.injEq, List.cons.injEq, TV.int.injEq, killT, delta, tak, ev, ad, taks, evs, nL, getH, pack, arith, callD, Nat.reduceAdd, Nat.reduceSub, Nat.reduceMul, Nat.reduceLeDiff, Nat.reduceEqDiff, Nat.reduceBEq, Nat.reduceBNe, Nat.reduceLT, Nat.reduceDiv, Int.reduceNeg, Int.reduceLT, Int.reduceLE, Int.reduceEq, Int.reduceNe, Int.reduceAdd, Int.reduceSub, Int.reduceMul, Int.reduceToNat, Int.reduceBEq, Int.reduceBNe, fillP, fillE, okE, okW, bound, elS, srcS, Fin, finish, ress, resOf, one, keeps, ↓reduceIte, Dl.ap, Dl.slots, okD, isLp, zeros, reduceCtorEq, List.append_assoc, List.length_append, tf_ledger_Quota, hO, hT, hI, hF, v0, v1]
theorem ledger_Quota_ok (l : Lg) (hl : l.ok) (hm : l.hs.length ≤ 1000000) (n : Int) (hw : within n 0 1099511627776 = true) (hf : fitB n 0 [l.u, l.he] = true) : CT n_ledger_Quota [l.tv, .int .i64 n] H = some ⟨.tup [.agg [.int .i64 n, .int .i64 l.u, .int .i64 l.he, .int .i64 l.nx, ownV l.hs], .int .i64 0], H, false⟩ := by
  obtain ⟨r, hO, hT⟩ := own3 (H := H) l hm
  have hI := nums_Within (H := H) n 0 1099511627776
  have hF := ledger_fits (H := H) n [l.u, l.he] (by intro n hn; simp at hn; rcases hn with rfl | rfl; exact hl.u; exact hl.he) (by simp)
  rw [List.map_cons, List.map_cons, List.map_nil, hf] at hF
  have v0 := ownV_shr0 l.hs
  have v1 := ownV_cell l.hs
  generalize ownV l.hs = V at *
  rw [hw] at hI
  rw [Lg.tv_eq] at hO ⊢
  unfold Lg.tvw at hT
  refine callT_of rfl tab_ledger_Quota ?_
  simp (maxSteps := 4000000) only [↓set16, ↓sl16, trim_set, lts_nil, trim_zero, trim_one, zz0, zz1, zz2, zz3, zz4, List.set_cons_zero, List.set_cons_succ, Bool.not_false, Bool.not_true, Bool.and_self, Bool.and_true, Bool.and_false, Bool.true_and, Bool.false_and, Bool.or_false, Bool.false_or, Bool.or_true, Bool.true_or, if_true, if_false, Bool.false_eq_true, List.getElem?_cons_zero, List.getElem?_cons_succ, List.map_cons, List.map_nil, List.headD_cons, List.all_cons, List.all_nil, List.append_nil, List.nil_append, List.cons_append, List.length_cons, List.length_nil, Nat.zero_add, Nat.add_zero, Nat.one_mul, Nat.mul_one, Nat.zero_mul, Nat.zero_le, Option.map_some, Option.map_none, List.drop_zero, List.drop_succ_cons, List.take_zero, List.take_succ_cons, List.drop_nil, List.take_nil, Option.isNone_none, Option.isSome_none, Option.isNone_some, Option.isSome_some, Option.bind_some, Option.bind_none, decide_true, decide_false, decide_eq_true_eq, decide_eq_false_iff_not, and_true, true_and, and_false, false_and, or_true, true_or, or_false, false_or, not_true_eq_false, not_false_eq_true, ne_eq, Bool.not_eq_true, Bool.not_eq_false, Bool.not_eq_eq_eq_not, eq_self, ite_self, List.replicate, Bool.and_eq_true, List.contains_nil, List.any_nil, List.any_cons, List.elem_nil, St.mk.injEq, List.foldl_cons, List.foldl_nil, flat_zeros, Bool.true_eq_false, Option.some.injEq, Ret.mk.injEq, and_self, TV.tup.injEq, List.cons.injEq, TV.int.injEq, killT, delta, tak, ev, ad, taks, evs, nL, getH, pack, arith, callD, Nat.reduceAdd, Nat.reduceSub, Nat.reduceMul, Nat.reduceLeDiff, Nat.reduceEqDiff, Nat.reduceBEq, Nat.reduceBNe, Nat.reduceLT, Nat.reduceDiv, Int.reduceNeg, Int.reduceLT, Int.reduceLE, Int.reduceEq, Int.reduceNe, Int.reduceAdd, Int.reduceSub, Int.reduceMul, Int.reduceToNat, Int.reduceBEq, Int.reduceBNe, fillP, fillE, okE, okW, bound, elS, srcS, Fin, finish, ress, resOf, one, keeps, ↓reduceIte, Dl.ap, Dl.slots, okD, isLp, zeros, reduceCtorEq, List.append_assoc, List.length_append, tf_ledger_Quota, hO, hT, hI, hF, v0, v1]
theorem row_deadL {l : List Hd} (h0 : ¬ l.length = 0) : dead (row l ++ []) = false := by
  match l, h0 with
  | h :: t, _ => rfl
theorem row_live {l : List Hd} (h0 : ¬ l.length = 0) : live (H ++ [row l]) H.length = some (row l ++ []) := by
  have hd := row_deadL h0
  rw [List.append_nil] at hd ⊢; exact live_app_eq hd
theorem ledger_Spend_none (l : Lg) (hm : l.hs.length ≤ 1000000) (id n : Int) (hn : findH id l.hs = none) : CT n_ledger_Spend [l.tv, .int .i64 id, .int .i64 n] H = some ⟨.tup [l.tvw (ownV l.hs), .int .i64 6], H, false⟩ := by
  have hO := ledger_own (H := H) l hm
  have q : (-1 : Int) < 0 := by decide
  unfold ownV
  by_cases h0 : l.hs.length = 0
  · simp only [if_pos h0] at hO ⊢
    have hA := ledger_at_sl (H := H) l hm id
    rw [idxF_find_none hn, Lg.tv_eq, List.eq_nil_of_length_eq_zero h0, List.map_nil] at hA
    rw [Lg.tv_eq] at hO ⊢
    unfold Lg.tvw at hO ⊢
    refine callT_of rfl tab_ledger_Spend ?_
    simp (maxSteps := 4000000) only [↓set16, ↓sl16, trim_set, lts_nil, trim_zero, trim_one, zz0, zz1, zz2, zz3, zz4, List.set_cons_zero, List.set_cons_succ, Bool.not_false, Bool.not_true, Bool.and_self, Bool.and_true, Bool.and_false, Bool.true_and, Bool.false_and, Bool.or_false, Bool.false_or, Bool.or_true, Bool.true_or, if_true, if_false, Bool.false_eq_true, List.getElem?_cons_zero, List.getElem?_cons_succ, List.map_cons, List.map_nil, List.headD_cons, List.all_cons, List.all_nil, List.append_nil, List.nil_append, List.cons_append, List.length_cons, List.length_nil, Nat.zero_add, Nat.add_zero, Nat.one_mul, Nat.mul_one, Nat.zero_mul, Nat.zero_le, Option.map_some, Option.map_none, List.drop_zero, List.drop_succ_cons, List.take_zero, List.take_succ_cons, List.drop_nil, List.take_nil, Option.isNone_none, Option.isSome_none, Option.isNone_some, Option.isSome_some, Option.bind_some, Option.bind_none, decide_true, decide_false, decide_eq_true_eq, decide_eq_false_iff_not, and_true, true_and, and_false, false_and, or_true, true_or, or_false, false_or, not_true_eq_false, not_false_eq_true, ne_eq, Bool.not_eq_true, Bool.not_eq_false, Bool.not_eq_eq_eq_not, eq_self, ite_self, List.replicate, Bool.and_eq_true, List.contains_nil, List.any_nil, List.any_cons, List.elem_nil, St.mk.injEq, List.foldl_cons, List.foldl_nil, flat_zeros, Bool.true_eq_false, Option.some.injEq, Ret.mk.injEq, and_self, TV.tup.injEq, List.cons.injEq, TV.int.injEq, killT, delta, tak, ev, ad, taks, evs, nL, getH, pack, arith, callD, Nat.reduceAdd, Nat.reduceSub, Nat.reduceMul, Nat.reduceLeDiff, Nat.reduceEqDiff, Nat.reduceBEq, Nat.reduceBNe, Nat.reduceLT, Nat.reduceDiv, Int.reduceNeg, Int.reduceLT, Int.reduceLE, Int.reduceEq, Int.reduceNe, Int.reduceAdd, Int.reduceSub, Int.reduceMul, Int.reduceToNat, Int.reduceBEq, Int.reduceBNe, fillP, fillE, okE, okW, bound, elS, srcS, Fin, finish, ress, resOf, one, keeps, ↓reduceIte, Dl.ap, Dl.slots, okD, isLp, zeros, reduceCtorEq, List.append_assoc, List.length_append, tf_ledger_Spend, hO, hA, q]
  · simp only [if_neg h0] at hO ⊢
    have hA := ledger_at_asl (H := H ++ [row l.hs]) l [] (row_live h0) hm id
    rw [idxF_find_none hn] at hA
    have hT := lg_trim (H := H) l.q l.u l.he l.nx 6 l.hs [] rfl (row_deadL h0)
    rw [List.append_nil] at hT
    unfold sln at hT
    rw [Lg.tv_eq] at hO ⊢
    unfold Lg.tvw at hO hA ⊢
    refine callT_of rfl tab_ledger_Spend ?_
    simp (maxSteps := 4000000) only [↓set16, ↓sl16, trim_set, lts_nil, trim_zero, trim_one, zz0, zz1, zz2, zz3, zz4, List.set_cons_zero, List.set_cons_succ, Bool.not_false, Bool.not_true, Bool.and_self, Bool.and_true, Bool.and_false, Bool.true_and, Bool.false_and, Bool.or_false, Bool.false_or, Bool.or_true, Bool.true_or, if_true, if_false, Bool.false_eq_true, List.getElem?_cons_zero, List.getElem?_cons_succ, List.map_cons, List.map_nil, List.headD_cons, List.all_cons, List.all_nil, List.append_nil, List.nil_append, List.cons_append, List.length_cons, List.length_nil, Nat.zero_add, Nat.add_zero, Nat.one_mul, Nat.mul_one, Nat.zero_mul, Nat.zero_le, Option.map_some, Option.map_none, List.drop_zero, List.drop_succ_cons, List.take_zero, List.take_succ_cons, List.drop_nil, List.take_nil, Option.isNone_none, Option.isSome_none, Option.isNone_some, Option.isSome_some, Option.bind_some, Option.bind_none, decide_true, decide_false, decide_eq_true_eq, decide_eq_false_iff_not, and_true, true_and, and_false, false_and, or_true, true_or, or_false, false_or, not_true_eq_false, not_false_eq_true, ne_eq, Bool.not_eq_true, Bool.not_eq_false, Bool.not_eq_eq_eq_not, eq_self, ite_self, List.replicate, Bool.and_eq_true, List.contains_nil, List.any_nil, List.any_cons, List.elem_nil, St.mk.injEq, List.foldl_cons, List.foldl_nil, flat_zeros, Bool.true_eq_false, Option.some.injEq, Ret.mk.injEq, and_self, TV.tup.injEq, List.cons.injEq, TV.int.injEq, killT, delta, tak, ev, ad, taks, evs, nL, getH, pack, arith, callD, Nat.reduceAdd, Nat.reduceSub, Nat.reduceMul, Nat.reduceLeDiff, Nat.reduceEqDiff, Nat.reduceBEq, Nat.reduceBNe, Nat.reduceLT, Nat.reduceDiv, Int.reduceNeg, Int.reduceLT, Int.reduceLE, Int.reduceEq, Int.reduceNe, Int.reduceAdd, Int.reduceSub, Int.reduceMul, Int.reduceToNat, Int.reduceBEq, Int.reduceBNe, fillP, fillE, okE, okW, bound, elS, srcS, Fin, finish, ress, resOf, one, keeps, ↓reduceIte, Dl.ap, Dl.slots, okD, isLp, zeros, reduceCtorEq, List.append_assoc, List.length_append, tf_ledger_Spend, hO, hA, q, hT]
theorem row_cut2 {l : List Hd} {z : List TV} {k : Nat} {h : Hd} (hg : l[k]? = some h) (o : Nat) (ho : o + 1 ≤ 6) : cut (row l ++ z) (k * 6 + o) 1 = cut h.cells o 1 := by
  have h1 := row_cut (z := z) hg
  unfold cut at h1 ⊢
  split at h1
  · simp only [Option.some.injEq] at h1
    rw [if_pos (by omega), if_pos (by rw [Hd.w6]; omega), ← h1, List.drop_take, List.take_take, List.drop_drop, Nat.min_eq_left (by omega)]
  · cases h1
theorem ledger_Spend_quota (l : Lg) (hm : l.hs.length ≤ 1000000) (id n : Int) (h : Hd) (hn : findH id l.hs = some h) (hw : within n 0 h.nb = false) : CT n_ledger_Spend [l.tv, .int .i64 id, .int .i64 n] H = some ⟨.tup [l.tvw (sln l.hs), .int .i64 14], H, false⟩ := by
  obtain ⟨A, B, hs, h1, h2, h3⟩ := find_some hn
  have hO := ledger_own (H := H) l hm
  have h0 : ¬ l.hs.length = 0 := by rw [hs, List.length_append, List.length_cons]; omega
  simp only [if_neg h0] at hO
  have hA := ledger_at_asl (H := H ++ [row l.hs]) l [] (row_live h0) hm id
  rw [hs, idxF_at h1 h2, ← hs, Nat.zero_add] at hA
  have q : ¬ (A.length : Int) < 0 := by omega
  have q0 : (0 : Int) ≤ A.length := by omega
  have q1 : (A.length : Int) < l.hs.length := by rw [hs, List.length_append, List.length_cons]; omega
  have hg : l.hs[A.length]? = some h := by rw [hs, List.getElem?_append_right (Nat.le_refl _), Nat.sub_self]; rfl
  have hb := row_live (H := H) h0
  have hc : cut (row l.hs ++ []) (A.length * 6 + 2) 1 = some [.int .i64 h.nb] := row_cut2 hg 2 (by omega)
  rw [List.append_nil] at hb hc
  have hI := nums_Within (H := H ++ [row l.hs]) n 0 h.nb
  rw [hw] at hI
  have hT := lg_trim (H := H) l.q l.u l.he l.nx 14 l.hs [] rfl (row_deadL h0)
  rw [List.append_nil] at hT
  rw [Lg.tv_eq] at hO ⊢
  unfold Lg.tvw at hO hA ⊢
  refine callT_of rfl tab_ledger_Spend ?_
  simp (maxSteps := 4000000) only [↓set16, ↓sl16, trim_set, lts_nil, trim_zero, trim_one, zz0, zz1, zz2, zz3, zz4, List.set_cons_zero, List.set_cons_succ, Bool.not_false, Bool.not_true, Bool.and_self, Bool.and_true, Bool.and_false, Bool.true_and, Bool.false_and, Bool.or_false, Bool.false_or, Bool.or_true, Bool.true_or, if_true, if_false, Bool.false_eq_true, List.getElem?_cons_zero, List.getElem?_cons_succ, List.map_cons, List.map_nil, List.headD_cons, List.all_cons, List.all_nil, List.append_nil, List.nil_append, List.cons_append, List.length_cons, List.length_nil, Nat.zero_add, Nat.add_zero, Nat.one_mul, Nat.mul_one, Nat.zero_mul, Nat.zero_le, Option.map_some, Option.map_none, List.drop_zero, List.drop_succ_cons, List.take_zero, List.take_succ_cons, List.drop_nil, List.take_nil, Option.isNone_none, Option.isSome_none, Option.isNone_some, Option.isSome_some, Option.bind_some, Option.bind_none, decide_true, decide_false, decide_eq_true_eq, decide_eq_false_iff_not, and_true, true_and, and_false, false_and, or_true, true_or, or_false, false_or, not_true_eq_false, not_false_eq_true, ne_eq, Bool.not_eq_true, Bool.not_eq_false, Bool.not_eq_eq_eq_not, eq_self, ite_self, List.replicate, Bool.and_eq_true, List.contains_nil, List.any_nil, List.any_cons, List.elem_nil, St.mk.injEq, List.foldl_cons, List.foldl_nil, flat_zeros, Bool.true_eq_false, Option.some.injEq, Ret.mk.injEq, and_self, TV.tup.injEq, List.cons.injEq, TV.int.injEq, killT, delta, tak, ev, ad, taks, evs, nL, getH, pack, arith, callD, Nat.reduceAdd, Nat.reduceSub, Nat.reduceMul, Nat.reduceLeDiff, Nat.reduceEqDiff, Nat.reduceBEq, Nat.reduceBNe, Nat.reduceLT, Nat.reduceDiv, Int.reduceNeg, Int.reduceLT, Int.reduceLE, Int.reduceEq, Int.reduceNe, Int.reduceAdd, Int.reduceSub, Int.reduceMul, Int.reduceToNat, Int.reduceBEq, Int.reduceBNe, fillP, fillE, okE, okW, bound, elS, srcS, Fin, finish, ress, resOf, one, keeps, ↓reduceIte, Dl.ap, Dl.slots, okD, isLp, zeros, reduceCtorEq, List.append_assoc, List.length_append, tf_ledger_Spend, hO, hA, q, q0, q1, hb, hc, hI, hT, Int.toNat_natCast]
theorem ledger_Spend_ok (l : Lg) (hm : l.hs.length ≤ 1000000) (id n : Int) (h : Hd) (hn : findH id l.hs = some h) (hw : within n 0 h.nb = true) : CT n_ledger_Spend [l.tv, .int .i64 id, .int .i64 n] H = some ⟨.tup [.agg [.int .i64 l.q, .int .i64 (IntKind.i64.wrap (l.u + n)), .int .i64 (IntKind.i64.wrap (l.he - h.nb)), .int .i64 l.nx, sln (relL id false l.hs)], .int .i64 0], H, false⟩ := by
  obtain ⟨A, B, hs, h1, h2, h3⟩ := find_some hn
  have hO := ledger_own (H := H) l hm
  have h0 : ¬ l.hs.length = 0 := by rw [hs, List.length_append, List.length_cons]; omega
  simp only [if_neg h0] at hO
  have hA := ledger_at_asl (H := H ++ [row l.hs]) l [] (row_live h0) hm id
  rw [hs, idxF_at h1 h2, ← hs, Nat.zero_add] at hA
  have q : ¬ (A.length : Int) < 0 := by omega
  have q0 : (0 : Int) ≤ A.length := by omega
  have q1 : (A.length : Int) < l.hs.length := by rw [hs, List.length_append, List.length_cons]; omega
  have hg : l.hs[A.length]? = some h := by rw [hs, List.getElem?_append_right (Nat.le_refl _), Nat.sub_self]; rfl
  have hb := row_live (H := H) h0
  have hD := ledger_drop l A B h hs [] hb hm
  have hc : cut (row l.hs ++ []) (A.length * 6 + 2) 1 = some [.int .i64 h.nb] := row_cut2 hg 2 (by omega)
  rw [List.append_nil] at hb hc
  have hI := nums_Within (H := H ++ [row l.hs]) n 0 h.nb
  rw [hw] at hI
  rw [set_last] at hD
  have hd2 : dead (row (A ++ B) ++ (zc ++ [])) = false := by
    cases A with
    | nil => cases B with
      | nil => rfl
      | cons => rfl
    | cons => rfl
  have hT := lg_trim (H := H) l.q (IntKind.i64.wrap (l.u + n)) (IntKind.i64.wrap (l.he - h.nb)) l.nx 0 (A ++ B) (zc ++ []) rfl hd2
  rw [List.append_nil] at hT hD
  rw [h3]
  generalize hL : (A ++ B).length = L at *
  rw [Lg.tv_eq] at hO ⊢
  unfold Lg.tvw at hO hA hD
  refine callT_of rfl tab_ledger_Spend ?_
  simp (maxSteps := 4000000) only [↓set16, ↓sl16, trim_set, lts_nil, trim_zero, trim_one, zz0, zz1, zz2, zz3, zz4, List.set_cons_zero, List.set_cons_succ, Bool.not_false, Bool.not_true, Bool.and_self, Bool.and_true, Bool.and_false, Bool.true_and, Bool.false_and, Bool.or_false, Bool.false_or, Bool.or_true, Bool.true_or, if_true, if_false, Bool.false_eq_true, List.getElem?_cons_zero, List.getElem?_cons_succ, List.map_cons, List.map_nil, List.headD_cons, List.all_cons, List.all_nil, List.append_nil, List.nil_append, List.cons_append, List.length_cons, List.length_nil, Nat.zero_add, Nat.add_zero, Nat.one_mul, Nat.mul_one, Nat.zero_mul, Nat.zero_le, Option.map_some, Option.map_none, List.drop_zero, List.drop_succ_cons, List.take_zero, List.take_succ_cons, List.drop_nil, List.take_nil, Option.isNone_none, Option.isSome_none, Option.isNone_some, Option.isSome_some, Option.bind_some, Option.bind_none, decide_true, decide_false, decide_eq_true_eq, decide_eq_false_iff_not, and_true, true_and, and_false, false_and, or_true, true_or, or_false, false_or, not_true_eq_false, not_false_eq_true, ne_eq, Bool.not_eq_true, Bool.not_eq_false, Bool.not_eq_eq_eq_not, eq_self, ite_self, List.replicate, Bool.and_eq_true, List.contains_nil, List.any_nil, List.any_cons, List.elem_nil, St.mk.injEq, List.foldl_cons, List.foldl_nil, flat_zeros, Bool.true_eq_false, Option.some.injEq, Ret.mk.injEq, and_self, TV.tup.injEq, List.cons.injEq, TV.int.injEq, killT, delta, tak, ev, ad, taks, evs, nL, getH, pack, arith, callD, Nat.reduceAdd, Nat.reduceSub, Nat.reduceMul, Nat.reduceLeDiff, Nat.reduceEqDiff, Nat.reduceBEq, Nat.reduceBNe, Nat.reduceLT, Nat.reduceDiv, Int.reduceNeg, Int.reduceLT, Int.reduceLE, Int.reduceEq, Int.reduceNe, Int.reduceAdd, Int.reduceSub, Int.reduceMul, Int.reduceToNat, Int.reduceBEq, Int.reduceBNe, fillP, fillE, okE, okW, bound, elS, srcS, Fin, finish, ress, resOf, one, keeps, ↓reduceIte, Dl.ap, Dl.slots, okD, isLp, zeros, reduceCtorEq, List.append_assoc, List.length_append, tf_ledger_Spend, hO, hA, q, q0, q1, hb, hc, hI, hD, hT, Int.toNat_natCast]
end Go.T
