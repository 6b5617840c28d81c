/- What the ledger's functions answer, on: drop, Reserve, Release, Same. -/
import Derived.Test.YtmmmogcbmfmabaaOled4
set_option linter.unusedVariables false
set_option linter.unusedSimpArgs false
set_option maxRecDepth 10000
set_option maxHeartbeats 1000000
namespace Go.T
attribute [local irreducible] Run Back RS Ap
theorem ledger_drop {H : Heap} {i : Nat} (l : Lg) (A B : List Hd) (h : Hd) (hs : l.hs = A ++ h :: B) (z : List TV) (hb : live H i = some (row l.hs ++ z)) (hm : l.hs.length ≤ 1000000) :
    CT n_ledger_drop [l.tvw (.asl true 6 i 0 l.hs.length), .int .i64 A.length] H = some ⟨.agg [.int .i64 l.q, .int .i64 l.u, .int .i64 (IntKind.i64.wrap (l.he - h.nb)), .int .i64 l.nx, .asl true 6 i 0 (A ++ B).length], H.set i (row (A ++ B) ++ (zc ++ z)), false⟩ := by
  have hg : l.hs[A.length]? = some h := by rw [hs, List.getElem?_append_right (Nat.le_refl _), Nat.sub_self]; rfl
  have hlt : A.length < l.hs.length := by rw [hs, List.length_append, List.length_cons]; omega
  have hc : ∀ o n, o + n ≤ 6 → cut (row l.hs ++ z) (A.length * 6 + o) n = cut h.cells o n := by
    intro o n hon
    have h1 := row_cut (z := z) hg
    unfold cut at h1 ⊢
    split at h1
    · simp only [Option.some.injEq] at h1
      rw [if_pos (by omega), if_pos (by rw [Hd.w6]; omega), ← h1, List.drop_take, List.take_take, List.drop_drop, Nat.min_eq_left (by omega)]
    · cases h1
  have hc2 := hc 2 1 (by omega)
  have hc2' : cut (row l.hs ++ z) (A.length * 6 + 2) 1 = some [.int .i64 h.nb] := hc2
  have hD := hold_Delete A B h z (hs ▸ hb) (hs ▸ hm)
  rw [← hs] at hD
  have q1 : (0 : Int) ≤ A.length := by omega
  have q2 : ((A.length : Nat) : Int) < (l.hs.length : Nat) := by omega
  have hw : IntKind.i64.wrap ((A.length : Int) + 1) = ((A.length + 1 : Nat) : Int) := IntWalk.i64_in _ (by omega)
  unfold Lg.tvw
  generalize hL : (A ++ B).length = L at *
  refine callT_of rfl tab_ledger_drop ?_
  simp (maxSteps := 4000000) only [↓set16, ↓sl16, zaa, zab, zac, zad, zz0, zz1, zz2, zz3, zz4, zae, zaf, zag, zah, zai, zaj, zak, zal, zam, zan, zao, zap, zaq, zar, zas, zat, zau, zav, zaw, zax, zay, zaz, zba, zbb, zbc, zbd, zbe, zbf, zbg, zbh, zbi, zbj, zbk, zbl, zbm, zbn, zbo, zbp, zbq, zbr, zbs, zbt, zbu, zbv, zbw, zbx, zby, zbz, zca, zcb, zcc, zcd, zce, zcf, zcg, zch, zci, zcj, zck, zcl, zcm, zcn, ne_eq, zco, zcp, zcq, zcr, zcs, List.replicate, zct, zcu, zcv, zcw, zcx, zcy, zcz, zda, zdb, zdc, zdd, zde, zdf, zdg, zdh, zdi, killT, delta, tak, ev, ad, taks, evs, nL, getH, pack, arith, callD, Nat.reduceAdd, Nat.reduceSub, Nat.reduceMul, Nat.reduceLeDiff, Nat.reduceEqDiff, Nat.reduceBEq, Nat.reduceBNe, Nat.reduceLT, Nat.reduceDiv, Int.reduceNeg, Int.reduceLT, Int.reduceLE, Int.reduceEq, Int.reduceNe, Int.reduceAdd, Int.reduceSub, Int.reduceMul, Int.reduceToNat, Int.reduceBEq, Int.reduceBNe, fillP, fillE, okE, okW, bound, elS, srcS, Fin, finish, ress, resOf, one, keeps, ↓reduceIte, Dl.ap, Dl.slots, okD, isLp, zeros, reduceCtorEq, zdj, zdk, tf_ledger_drop, hb, hc2', Int.toNat_natCast, q1, q2, hw, hD]
theorem idxF_none {id : Int} {l : List Hd} (h : ∀ x ∈ l, x.id ≠ id) : ∀ k, idxF id k l = -1 := by
  induction l with
  | nil => intro k; rfl
  | cons x l ih => intro k; rw [idxF, if_neg (h x (by simp)), ih fun y hy => h y (by simp [hy])]
theorem idxF_at {id : Int} {A B : List Hd} {h : Hd} (hA : ∀ x ∈ A, x.id ≠ id) (hh : h.id = id) : ∀ k, idxF id k (A ++ h :: B) = (k + A.length : Nat) := by
  induction A with
  | nil => intro k; rw [List.nil_append, idxF, if_pos hh]; simp
  | cons x A ih => intro k; rw [List.cons_append, idxF, if_neg (hA x (by simp)), ih fun y hy => hA y (by simp [hy]), List.length_cons]; omega
theorem idxF_cases (id : Int) (l : List Hd) : (∀ x ∈ l, x.id ≠ id) ∨ ∃ A h B, l = A ++ h :: B ∧ (∀ x ∈ A, x.id ≠ id) ∧ h.id = id := by
  induction l with
  | nil => left; simp
  | cons x l ih =>
    by_cases hx : x.id = id
    · exact .inr ⟨[], x, l, rfl, by simp, hx⟩
    · rcases ih with h | ⟨A, h, B, rfl, h1, h2⟩
      · left; intro y hy; rcases List.mem_cons.1 hy with rfl | hy; exact hx; exact h y hy
      · refine .inr ⟨x :: A, h, B, rfl, ?_, h2⟩
        intro y hy; rcases List.mem_cons.1 hy with rfl | hy; exact hx; exact h1 y hy
/-- A row of one's own, as a value. -/
def ownV (l : List Hd) : TV := if l.length = 0 then .nils else .sl (.own 6 false) (l.map Hd.tv)
def sln (l : List Hd) : TV := .sl (.own 6 false) (l.map Hd.tv)
theorem lg_trim {H : Heap} (a b c d e : Int) (l : List Hd) (z : List TV) (hz : z.map TV.shr0 = z) (hd : dead (row l ++ z) = false) : trim true H.length ⟨.tup [.agg [.int .i64 a, .int .i64 b, .int .i64 c, .int .i64 d, .asl true 6 H.length 0 l.length], .int .i64 e], H ++ [row l ++ z], false⟩ = ⟨.tup [.agg [.int .i64 a, .int .i64 b, .int .i64 c, .int .i64 d, sln l], .int .i64 e], H, false⟩ := by
  have hb : live (H ++ [row l ++ z]) H.length = some (row l ++ z) := live_app_eq hd
  have hf := frz_row (Nat.le_refl H.length) l z hz hb
  have hlen : (H ++ [row l ++ z]).length ≠ H.length := by simp
  unfold trim sln
  simp only [hlen, if_false, Bool.false_eq_true, rowT, rowA, rowC, frzT, frzA, hf, frzC_int, List.flatMap_cons, List.flatMap_nil, List.append_nil, List.nil_append, Nat.le_refl, if_true, List.length_cons, List.length_nil, Bool.true_and, decide_true, List.map_cons, List.map_nil, TV.lt, TV.lts, lts_tv, Bool.and_self, List.take_left]
/-- Release, where there is no such hold. -/
theorem ledger_Release_none {H : Heap} (l : Lg) (hm : l.hs.length ≤ 1000000) (id : Int) (hn : ∀ x ∈ l.hs, x.id ≠ id) : CT n_ledger_Release [l.tv, .int .i64 id] H = some ⟨.tup [l.tvw (ownV l.hs), .int .i64 6], H, false⟩ := by
  have hO := ledger_own (H := H) l hm
  have q : (-1 : Int) < 0 := by decide
  unfold ownV
  by_cases h0 : l.hs.length = 0
  · simp only [if_pos h0] at hO ⊢
    have hA := ledger_at_sl (H := H) l hm id
    rw [idxF_none hn, Lg.tv_eq, List.eq_nil_of_length_eq_zero h0, List.map_nil] at hA
    rw [Lg.tv_eq] at hO ⊢
    unfold Lg.tvw at hO ⊢
    refine callT_of rfl tab_ledger_Release ?_
    simp (maxSteps := 4000000) only [↓set16, ↓sl16, zaa, zab, zac, zad, zz0, zz1, zz2, zz3, zz4, zae, zaf, zag, zah, zai, zaj, zak, zal, zam, zan, zao, zap, zaq, zar, zas, zat, zau, zav, zaw, zax, zay, zaz, zba, zbb, zbc, zbd, zbe, zbf, zbg, zbh, zbi, zbj, zbk, zbl, zbm, zbn, zbo, zbp, zbq, zbr, zbs, zbt, zbu, zbv, zbw, zbx, zby, zbz, zca, zcb, zcc, zcd, zce, zcf, zcg, zch, zci, zcj, zck, zcl, zcm, zcn, ne_eq, zco, zcp, zcq, zcr, zcs, List.replicate, zct, zcu, zcv, zcw, zcx, zcy, zcz, zda, zdb, zdc, zdd, zde, zdf, zdg, zdh, zdi, killT, delta, tak, ev, ad, taks, evs, nL, getH, pack, arith, callD, Nat.reduceAdd, Nat.reduceSub, Nat.reduceMul, Nat.reduceLeDiff, Nat.reduceEqDiff, Nat.reduceBEq, Nat.reduceBNe, Nat.reduceLT, Nat.reduceDiv, Int.reduceNeg, Int.reduceLT, Int.reduceLE, Int.reduceEq, Int.reduceNe, Int.reduceAdd, Int.reduceSub, Int.reduceMul, Int.reduceToNat, Int.reduceBEq, Int.reduceBNe, fillP, fillE, okE, okW, bound, elS, srcS, Fin, finish, ress, resOf, one, keeps, ↓reduceIte, Dl.ap, Dl.slots, okD, isLp, zeros, reduceCtorEq, zdj, zdk, tf_ledger_Release, hO, hA, q]
  · simp only [if_neg h0] at hO ⊢
    have hd : dead (row l.hs ++ []) = false := by
      match hl : l.hs, h0 with
      | h :: t, _ => rfl
    have hb : live (H ++ [row l.hs]) H.length = some (row l.hs ++ []) := by rw [List.append_nil] at hd ⊢; exact live_app_eq hd
    have hA := ledger_at_asl (H := H ++ [row l.hs]) l [] hb hm id
    rw [idxF_none hn] at hA
    have hT := lg_trim (H := H) l.q l.u l.he l.nx 6 l.hs [] rfl hd
    rw [List.append_nil] at hT
    unfold sln at hT
    rw [Lg.tv_eq] at hO ⊢
    unfold Lg.tvw at hO hA ⊢
    refine callT_of rfl tab_ledger_Release ?_
    simp (maxSteps := 4000000) only [↓set16, ↓sl16, zaa, zab, zac, zad, zz0, zz1, zz2, zz3, zz4, zae, zaf, zag, zah, zai, zaj, zak, zal, zam, zan, zao, zap, zaq, zar, zas, zat, zau, zav, zaw, zax, zay, zaz, zba, zbb, zbc, zbd, zbe, zbf, zbg, zbh, zbi, zbj, zbk, zbl, zbm, zbn, zbo, zbp, zbq, zbr, zbs, zbt, zbu, zbv, zbw, zbx, zby, zbz, zca, zcb, zcc, zcd, zce, zcf, zcg, zch, zci, zcj, zck, zcl, zcm, zcn, ne_eq, zco, zcp, zcq, zcr, zcs, List.replicate, zct, zcu, zcv, zcw, zcx, zcy, zcz, zda, zdb, zdc, zdd, zde, zdf, zdg, zdh, zdi, killT, delta, tak, ev, ad, taks, evs, nL, getH, pack, arith, callD, Nat.reduceAdd, Nat.reduceSub, Nat.reduceMul, Nat.reduceLeDiff, Nat.reduceEqDiff, Nat.reduceBEq, Nat.reduceBNe, Nat.reduceLT, Nat.reduceDiv, Int.reduceNeg, Int.reduceLT, Int.reduceLE, Int.reduceEq, Int.reduceNe, Int.reduceAdd, Int.reduceSub, Int.reduceMul, Int.reduceToNat, Int.reduceBEq, Int.reduceBNe, fillP, fillE, okE, okW, bound, elS, srcS, Fin, finish, ress, resOf, one, keeps, ↓reduceIte, Dl.ap, Dl.slots, okD, isLp, zeros, reduceCtorEq, zdj, zdk, tf_ledger_Release, hO, hA, q, hT]
theorem set_last {H : Heap} {x y : List TV} : (H ++ [x]).set H.length y = H ++ [y] := by
  rw [List.set_append_right _ _ (Nat.le_refl _), Nat.sub_self]; rfl
/-- Release, where there is one. -/
theorem ledger_Release {H : Heap} (l : Lg) (hm : l.hs.length ≤ 1000000) (id : Int) (A B : List Hd) (h : Hd) (hs : l.hs = A ++ h :: B) (hA0 : ∀ x ∈ A, x.id ≠ id) (hh : h.id = id) : CT n_ledger_Release [l.tv, .int .i64 id] H = some ⟨.tup [.agg [.int .i64 l.q, .int .i64 l.u, .int .i64 (IntKind.i64.wrap (l.he - h.nb)), .int .i64 l.nx, sln (A ++ B)], .int .i64 0], H, false⟩ := by
  have hO := ledger_own (H := H) l hm
  have h0 : ¬ l.hs.length = 0 := by rw [hs, List.length_append, List.length_cons]; omega
  simp only [if_neg h0] at hO
  have hd : dead (row l.hs ++ []) = false := by
    match hl : l.hs, h0 with
    | h :: t, _ => rfl
  have hb : live (H ++ [row l.hs]) H.length = some (row l.hs ++ []) := by rw [List.append_nil] at hd ⊢; exact live_app_eq hd
  have hA := ledger_at_asl (H := H ++ [row l.hs]) l [] hb hm id
  rw [hs, idxF_at hA0 hh, ← hs, Nat.zero_add] at hA
  have hD := ledger_drop l A B h hs [] hb hm
  rw [set_last] at hD
  have hd2 : dead (row (A ++ B) ++ (zc ++ [])) = false := by
    cases A with
    | nil => cases B with
      | nil => rfl
      | cons => rfl
    | cons => rfl
  have hT := lg_trim (H := H) l.q l.u (IntKind.i64.wrap (l.he - h.nb)) l.nx 0 (A ++ B) (zc ++ []) rfl hd2
  have q : ¬ (A.length : Int) < 0 := by omega
  rw [List.append_nil] at hT
  generalize hL : (A ++ B).length = L at *
  rw [Lg.tv_eq] at hO ⊢
  unfold Lg.tvw at hO hA hD
  refine callT_of rfl tab_ledger_Release ?_
  simp (maxSteps := 4000000) only [↓set16, ↓sl16, zaa, zab, zac, zad, zz0, zz1, zz2, zz3, zz4, zae, zaf, zag, zah, zai, zaj, zak, zal, zam, zan, zao, zap, zaq, zar, zas, zat, zau, zav, zaw, zax, zay, zaz, zba, zbb, zbc, zbd, zbe, zbf, zbg, zbh, zbi, zbj, zbk, zbl, zbm, zbn, zbo, zbp, zbq, zbr, zbs, zbt, zbu, zbv, zbw, zbx, zby, zbz, zca, zcb, zcc, zcd, zce, zcf, zcg, zch, zci, zcj, zck, zcl, zcm, zcn, ne_eq, zco, zcp, zcq, zcr, zcs, List.replicate, zct, zcu, zcv, zcw, zcx, zcy, zcz, zda, zdb, zdc, zdd, zde, zdf, zdg, zdh, zdi, killT, delta, tak, ev, ad, taks, evs, nL, getH, pack, arith, callD, Nat.reduceAdd, Nat.reduceSub, Nat.reduceMul, Nat.reduceLeDiff, Nat.reduceEqDiff, Nat.reduceBEq, Nat.reduceBNe, Nat.reduceLT, Nat.reduceDiv, Int.reduceNeg, Int.reduceLT, Int.reduceLE, Int.reduceEq, Int.reduceNe, Int.reduceAdd, Int.reduceSub, Int.reduceMul, Int.reduceToNat, Int.reduceBEq, Int.reduceBNe, fillP, fillE, okE, okW, bound, elS, srcS, Fin, finish, ress, resOf, one, keeps, ↓reduceIte, Dl.ap, Dl.slots, okD, isLp, zeros, reduceCtorEq, zdj, zdk, tf_ledger_Release, hO, hA, q, hD, hT]
end Go.T
