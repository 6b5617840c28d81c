/- What the ledger's functions answer, on: Reserve, Same; reserve and release. -/
import Derived.Test.YtmmmogcbmfmabaaOled5
set_option linter.unusedVariables false
set_option linter.unusedSimpArgs false
set_option maxRecDepth 10000
set_option maxHeartbeats 1000000
namespace Go.T
attribute [local irreducible] Run Back RS Ap
/-- The hold that is put in. -/
def inH (l : Lg) (h : Hd) : Hd := { h with id := l.nx }
/-- The error of Reserve. -/
def resE (l : Lg) (h : Hd) : Int :=
  if holdB (inH l h) = false then 1 else if 8 ≤ (l.hs.length : Int) then 7 else if 2147483648 ≤ l.nx then 7 else if fitB l.q 0 [l.u, l.he, h.nb] = false then 14 else 0
def resL (l : Lg) (h : Hd) : Lg := ⟨l.q, l.u, IntKind.i64.wrap (l.he + h.nb), IntKind.i64.wrap (l.nx + 1), l.hs ++ [inH l h]⟩
theorem ownV_shr0 (l : List Hd) : (ownV l).shr0 = .sl .shr (l.map Hd.tv) := by
  unfold ownV
  split
  · rename_i h; rw [List.eq_nil_of_length_eq_zero h]; rfl
  · rfl
theorem ownV_cell (l : List Hd) : (ownV l).isCell = true := by
  unfold ownV
  split <;> rfl
theorem own3 {H : Heap} (l : Lg) (hm : l.hs.length ≤ 1000000) : ∃ r, CT n_ledger_own [l.tv] H = some r ∧ trim true H.length r = ⟨l.tvw (ownV l.hs), H, false⟩ := by
  have hO := ledger_own (H := H) l hm
  unfold ownV
  by_cases h0 : l.hs.length = 0
  · simp only [if_pos h0] at hO ⊢
    exact ⟨_, hO, trim_refl⟩
  · simp only [if_neg h0] at hO ⊢
    exact ⟨_, hO, own_trim l h0⟩
theorem resE_cases (l : Lg) (h : Hd) : (holdB (inH l h) = false ∧ resE l h = 1) ∨ (holdB (inH l h) = true ∧ ((8 ≤ (l.hs.length : Int) ∧ resE l h = 7) ∨ (¬ 8 ≤ (l.hs.length : Int) ∧ ((2147483648 ≤ l.nx ∧ resE l h = 7) ∨ (¬ 2147483648 ≤ l.nx ∧ ((fitB l.q 0 [l.u, l.he, h.nb] = false ∧ resE l h = 14) ∨ (fitB l.q 0 [l.u, l.he, h.nb] = true ∧ resE l h = 0))))))) := by
  unfold resE
  cases e1 : holdB (inH l h)
  · simp
  · by_cases e2 : 8 ≤ (l.hs.length : Int)
    · simp [e2]
    · by_cases e3 : 2147483648 ≤ l.nx
      · simp [e2, e3]
      · cases e4 : fitB l.q 0 [l.u, l.he, h.nb] <;> simp [e2, e3]
variable {H : Heap}
theorem ledger_Reserve_err (l : Lg) (hl : l.ok) (h : Hd) (hh : h.ok) (hm : l.hs.length ≤ 100000) (he : resE l h ≠ 0) : CT n_ledger_Reserve [l.tv, h.tv] H = some ⟨.tup [l.tvw (ownV l.hs), .int .i64 0, .int .i64 (resE l h)], H, false⟩ := by
  obtain ⟨r, hO, hT⟩ := own3 (H := H) l (by omega)
  have hM := ledger_mayHold (H := H) (inH l h)
  have hF := ledger_fits (H := H) l.q [l.u, l.he, h.nb] (by intro n hn; simp at hn; rcases hn with rfl | rfl | rfl; exact hl.u; exact hl.he; exact hh.nb) (by simp)
  rw [List.map_cons, List.map_cons, List.map_cons, List.map_nil] at hF
  have v0 := ownV_shr0 l.hs
  have v1 := ownV_cell l.hs
  generalize ownV l.hs = V at *
  rw [Hd.tv_eq] at hM ⊢
  rw [Lg.tv_eq] at hO ⊢
  unfold Lg.tvw at hT ⊢
  rcases resE_cases l h with ⟨c1, e⟩ | ⟨c1, ⟨c2, e⟩ | ⟨c2, ⟨c3, e⟩ | ⟨c3, ⟨c4, e⟩ | ⟨c4, e⟩⟩⟩⟩
  · rw [c1] at hM
    rw [e]
    unfold inH at hM
    refine callT_of rfl tab_ledger_Reserve ?_
    simp (maxSteps := 4000000) only [↓set16, ↓sl16, zaa, zab, zac, zad, zz0, zz1, zz2, zz3, zz4, zae, zaf, zag, zah, zai, zaj, zak, zal, zam, zan, zao, zap, zaq, zar, zas, zat, zau, zav, zaw, zax, zay, zaz, zba, zbb, zbc, zbd, zbe, zbf, zbg, zbh, zbi, zbj, zbk, zbl, zbm, zbn, zbo, zbp, zbq, zbr, zbs, zbt, zbu, zbv, zbw, zbx, zby, zbz, zca, zcb, zcc, zcd, zce, zcf, zcg, zch, zci, zcj, zck, zcl, zcm, zcn, ne_eq, zco, zcp, zcq, zcr, zcs, List.replicate, zct, zcu, zcv, zcw, zcx, zcy, zcz, zda, zdb, zdc, zdd, zde, zdf, zdg, zdh, zdi, killT, delta, tak, ev, ad, taks, evs, nL, getH, pack, arith, callD, Nat.reduceAdd, Nat.reduceSub, Nat.reduceMul, Nat.reduceLeDiff, Nat.reduceEqDiff, Nat.reduceBEq, Nat.reduceBNe, Nat.reduceLT, Nat.reduceDiv, Int.reduceNeg, Int.reduceLT, Int.reduceLE, Int.reduceEq, Int.reduceNe, Int.reduceAdd, Int.reduceSub, Int.reduceMul, Int.reduceToNat, Int.reduceBEq, Int.reduceBNe, fillP, fillE, okE, okW, bound, elS, srcS, Fin, finish, ress, resOf, one, keeps, ↓reduceIte, Dl.ap, Dl.slots, okD, isLp, zeros, reduceCtorEq, zdj, zdk, tf_ledger_Reserve, jn_ledger_Reserve_1, hO, hT, hM, v0, v1]
  · rw [c1] at hM
    rw [e]
    unfold inH at hM
    refine callT_of rfl tab_ledger_Reserve ?_
    simp (maxSteps := 4000000) only [↓set16, ↓sl16, zaa, zab, zac, zad, zz0, zz1, zz2, zz3, zz4, zae, zaf, zag, zah, zai, zaj, zak, zal, zam, zan, zao, zap, zaq, zar, zas, zat, zau, zav, zaw, zax, zay, zaz, zba, zbb, zbc, zbd, zbe, zbf, zbg, zbh, zbi, zbj, zbk, zbl, zbm, zbn, zbo, zbp, zbq, zbr, zbs, zbt, zbu, zbv, zbw, zbx, zby, zbz, zca, zcb, zcc, zcd, zce, zcf, zcg, zch, zci, zcj, zck, zcl, zcm, zcn, ne_eq, zco, zcp, zcq, zcr, zcs, List.replicate, zct, zcu, zcv, zcw, zcx, zcy, zcz, zda, zdb, zdc, zdd, zde, zdf, zdg, zdh, zdi, killT, delta, tak, ev, ad, taks, evs, nL, getH, pack, arith, callD, Nat.reduceAdd, Nat.reduceSub, Nat.reduceMul, Nat.reduceLeDiff, Nat.reduceEqDiff, Nat.reduceBEq, Nat.reduceBNe, Nat.reduceLT, Nat.reduceDiv, Int.reduceNeg, Int.reduceLT, Int.reduceLE, Int.reduceEq, Int.reduceNe, Int.reduceAdd, Int.reduceSub, Int.reduceMul, Int.reduceToNat, Int.reduceBEq, Int.reduceBNe, fillP, fillE, okE, okW, bound, elS, srcS, Fin, finish, ress, resOf, one, keeps, ↓reduceIte, Dl.ap, Dl.slots, okD, isLp, zeros, reduceCtorEq, zdj, zdk, tf_ledger_Reserve, jn_ledger_Reserve_1, hO, hT, hM, v0, v1, List.length_map, ge_iff_le, c2]
  · rw [c1] at hM
    rw [e]
    unfold inH at hM
    refine callT_of rfl tab_ledger_Reserve ?_
    simp (maxSteps := 4000000) only [↓set16, ↓sl16, zaa, zab, zac, zad, zz0, zz1, zz2, zz3, zz4, zae, zaf, zag, zah, zai, zaj, zak, zal, zam, zan, zao, zap, zaq, zar, zas, zat, zau, zav, zaw, zax, zay, zaz, zba, zbb, zbc, zbd, zbe, zbf, zbg, zbh, zbi, zbj, zbk, zbl, zbm, zbn, zbo, zbp, zbq, zbr, zbs, zbt, zbu, zbv, zbw, zbx, zby, zbz, zca, zcb, zcc, zcd, zce, zcf, zcg, zch, zci, zcj, zck, zcl, zcm, zcn, ne_eq, zco, zcp, zcq, zcr, zcs, List.replicate, zct, zcu, zcv, zcw, zcx, zcy, zcz, zda, zdb, zdc, zdd, zde, zdf, zdg, zdh, zdi, killT, delta, tak, ev, ad, taks, evs, nL, getH, pack, arith, callD, Nat.reduceAdd, Nat.reduceSub, Nat.reduceMul, Nat.reduceLeDiff, Nat.reduceEqDiff, Nat.reduceBEq, Nat.reduceBNe, Nat.reduceLT, Nat.reduceDiv, Int.reduceNeg, Int.reduceLT, Int.reduceLE, Int.reduceEq, Int.reduceNe, Int.reduceAdd, Int.reduceSub, Int.reduceMul, Int.reduceToNat, Int.reduceBEq, Int.reduceBNe, fillP, fillE, okE, okW, bound, elS, srcS, Fin, finish, ress, resOf, one, keeps, ↓reduceIte, Dl.ap, Dl.slots, okD, isLp, zeros, reduceCtorEq, zdj, zdk, tf_ledger_Reserve, jn_ledger_Reserve_1, hO, hT, hM, v0, v1, List.length_map, ge_iff_le, c2, c3]
  · rw [c1] at hM
    rw [c4] at hF
    rw [e]
    unfold inH at hM
    refine callT_of rfl tab_ledger_Reserve ?_
    simp (maxSteps := 4000000) only [↓set16, ↓sl16, zaa, zab, zac, zad, zz0, zz1, zz2, zz3, zz4, zae, zaf, zag, zah, zai, zaj, zak, zal, zam, zan, zao, zap, zaq, zar, zas, zat, zau, zav, zaw, zax, zay, zaz, zba, zbb, zbc, zbd, zbe, zbf, zbg, zbh, zbi, zbj, zbk, zbl, zbm, zbn, zbo, zbp, zbq, zbr, zbs, zbt, zbu, zbv, zbw, zbx, zby, zbz, zca, zcb, zcc, zcd, zce, zcf, zcg, zch, zci, zcj, zck, zcl, zcm, zcn, ne_eq, zco, zcp, zcq, zcr, zcs, List.replicate, zct, zcu, zcv, zcw, zcx, zcy, zcz, zda, zdb, zdc, zdd, zde, zdf, zdg, zdh, zdi, killT, delta, tak, ev, ad, taks, evs, nL, getH, pack, arith, callD, Nat.reduceAdd, Nat.reduceSub, Nat.reduceMul, Nat.reduceLeDiff, Nat.reduceEqDiff, Nat.reduceBEq, Nat.reduceBNe, Nat.reduceLT, Nat.reduceDiv, Int.reduceNeg, Int.reduceLT, Int.reduceLE, Int.reduceEq, Int.reduceNe, Int.reduceAdd, Int.reduceSub, Int.reduceMul, Int.reduceToNat, Int.reduceBEq, Int.reduceBNe, fillP, fillE, okE, okW, bound, elS, srcS, Fin, finish, ress, resOf, one, keeps, ↓reduceIte, Dl.ap, Dl.slots, okD, isLp, zeros, reduceCtorEq, zdj, zdk, tf_ledger_Reserve, jn_ledger_Reserve_1, hO, hT, hM, v0, v1, List.length_map, ge_iff_le, c2, c3, hF]
  · exact absurd e he
theorem ledger_Reserve_ok (l : Lg) (hl : l.ok) (h : Hd) (hh : h.ok) (hm : l.hs.length ≤ 100000) (he : resE l h = 0) : CT n_ledger_Reserve [l.tv, h.tv] H = some ⟨.tup [.agg [.int .i64 l.q, .int .i64 l.u, .int .i64 (IntKind.i64.wrap (l.he + h.nb)), .int .i64 (IntKind.i64.wrap (l.nx + 1)), sln (l.hs ++ [inH l h])], .int .i64 l.nx, .int .i64 0], H, false⟩ := by
  obtain ⟨r, hO, hT⟩ := own3 (H := H) l (by omega)
  have hM := ledger_mayHold (H := H) (inH l h)
  have hF := ledger_fits (H := H) l.q [l.u, l.he, h.nb] (by intro n hn; simp at hn; rcases hn with rfl | rfl | rfl; exact hl.u; exact hl.he; exact hh.nb) (by simp)
  rw [List.map_cons, List.map_cons, List.map_cons, List.map_nil] at hF
  have v0 := ownV_shr0 l.hs
  have v1 := ownV_cell l.hs
  rw [Hd.tv_eq] at hM ⊢
  rw [Lg.tv_eq] at hO ⊢
  unfold Lg.tvw at hT
  have okw := okW_tv' l.hs
  have r0 : (1 : Nat) * 56 ≤ roomB := by unfold roomB; omega
  have r1 : (1 : Nat) ≤ roomB := by unfold roomB; omega
  have r2 : (l.hs.length + 1) * 56 ≤ roomB := by unfold roomB; omega
  have r3 : l.hs.length + 1 ≤ roomB := by unfold roomB; omega
  have hs : sln (l.hs ++ [inH l h]) = .sl (.own 6 false) (l.hs.map Hd.tv ++ [.agg [.int .i64 l.nx, .int .i64 h.cl, .int .i64 h.nb, .int .i64 h.un, .int .i64 h.ti, .str h.sp]]) := by
    unfold sln; rw [List.map_append]; rfl
  rw [hs]
  have hc : (holdB (inH l h) = true ∧ ¬ 8 ≤ (l.hs.length : Int) ∧ ¬ 2147483648 ≤ l.nx ∧ fitB l.q 0 [l.u, l.he, h.nb] = true) := by
    rcases resE_cases l h with ⟨c1, e⟩ | ⟨c1, ⟨c2, e⟩ | ⟨c2, ⟨c3, e⟩ | ⟨c3, ⟨c4, e⟩ | ⟨c4, e⟩⟩⟩⟩ <;> first | exact ⟨c1, c2, c3, c4⟩ | (rw [e] at he; cases he)
  obtain ⟨c1, c2, c3, c4⟩ := hc
  rw [c1] at hM
  rw [c4] at hF
  unfold inH at hM
  by_cases h0 : l.hs.length = 0
  · have hn : l.hs = [] := List.eq_nil_of_length_eq_zero h0
    have hV : ownV l.hs = .nils := if_pos h0
    rw [hV] at v0 v1 hT
    rw [hn] at hO c2 ⊢
    simp only [List.map_nil, List.nil_append, List.length_nil] at hO c2 ⊢
    refine callT_of rfl tab_ledger_Reserve ?_
    simp (maxSteps := 4000000) only [↓set16, ↓sl16, zaa, zab, zac, zad, zz0, zz1, zz2, zz3, zz4, zae, zaf, zag, zah, zai, zaj, zak, zal, zam, zan, zao, zap, zaq, zar, zas, zat, zau, zav, zaw, zax, zay, zaz, zba, zbb, zbc, zbd, zbe, zbf, zbg, zbh, zbi, zbj, zbk, zbl, zbm, zbn, zbo, zbp, zbq, zbr, zbs, zbt, zbu, zbv, zbw, zbx, zby, zbz, zca, zcb, zcc, zcd, zce, zcf, zcg, zch, zci, zcj, zck, zcl, zcm, zcn, ne_eq, zco, zcp, zcq, zcr, zcs, List.replicate, zct, zcu, zcv, zcw, zcx, zcy, zcz, zda, zdb, zdc, zdd, zde, zdf, zdg, zdh, zdi, killT, delta, tak, ev, ad, taks, evs, nL, getH, pack, arith, callD, Nat.reduceAdd, Nat.reduceSub, Nat.reduceMul, Nat.reduceLeDiff, Nat.reduceEqDiff, Nat.reduceBEq, Nat.reduceBNe, Nat.reduceLT, Nat.reduceDiv, Int.reduceNeg, Int.reduceLT, Int.reduceLE, Int.reduceEq, Int.reduceNe, Int.reduceAdd, Int.reduceSub, Int.reduceMul, Int.reduceToNat, Int.reduceBEq, Int.reduceBNe, fillP, fillE, okE, okW, bound, elS, srcS, Fin, finish, ress, resOf, one, keeps, ↓reduceIte, Dl.ap, Dl.slots, okD, isLp, zeros, reduceCtorEq, zdj, zdk, tf_ledger_Reserve, jn_ledger_Reserve_1, hO, hT, hM, List.length_map, ge_iff_le, c2, c3, hF, r0, r1]
  · have hV : ownV l.hs = .sl (.own 6 false) (l.hs.map Hd.tv) := if_neg h0
    rw [hV] at v0 v1 hT
    refine callT_of rfl tab_ledger_Reserve ?_
    simp (maxSteps := 4000000) only [↓set16, ↓sl16, zaa, zab, zac, zad, zz0, zz1, zz2, zz3, zz4, zae, zaf, zag, zah, zai, zaj, zak, zal, zam, zan, zao, zap, zaq, zar, zas, zat, zau, zav, zaw, zax, zay, zaz, zba, zbb, zbc, zbd, zbe, zbf, zbg, zbh, zbi, zbj, zbk, zbl, zbm, zbn, zbo, zbp, zbq, zbr, zbs, zbt, zbu, zbv, zbw, zbx, zby, zbz, zca, zcb, zcc, zcd, zce, zcf, zcg, zch, zci, zcj, zck, zcl, zcm, zcn, ne_eq, zco, zcp, zcq, zcr, zcs, List.replicate, zct, zcu, zcv, zcw, zcx, zcy, zcz, zda, zdb, zdc, zdd, zde, zdf, zdg, zdh, zdi, killT, delta, tak, ev, ad, taks, evs, nL, getH, pack, arith, callD, Nat.reduceAdd, Nat.reduceSub, Nat.reduceMul, Nat.reduceLeDiff, Nat.reduceEqDiff, Nat.reduceBEq, Nat.reduceBNe, Nat.reduceLT, Nat.reduceDiv, Int.reduceNeg, Int.reduceLT, Int.reduceLE, Int.reduceEq, Int.reduceNe, Int.reduceAdd, Int.reduceSub, Int.reduceMul, Int.reduceToNat, Int.reduceBEq, Int.reduceBNe, fillP, fillE, okE, okW, bound, elS, srcS, Fin, finish, ress, resOf, one, keeps, ↓reduceIte, Dl.ap, Dl.slots, okD, isLp, zeros, reduceCtorEq, zdj, zdk, tf_ledger_Reserve, jn_ledger_Reserve_1, hO, hT, hM, List.length_map, ge_iff_le, c2, c3, hF, r2, r3, okw]
end Go.T
