/- What the ledger's writers answer: the same bytes. -/
import Derived.Test.YtmmmogcbmfmabaaOpk6
import Derived.Test.YtmmmogcbmfmabaaOled9
set_option linter.unusedVariables false
set_option linter.unusedSimpArgs false
set_option maxRecDepth 10000
set_option maxHeartbeats 1000000
namespace Go.T
attribute [local irreducible] Run Back RS Ap
variable {H : Heap}
def putAll (acc : List Int) (l : List Int) : List Int := l.foldl (fun b n => b ++ numB n) acc
theorem putAll_len (l : List Int) : ∀ acc, (putAll acc l).length ≤ acc.length + 9 * l.length := by
  induction l with
  | nil => intro acc; exact Nat.le_refl _
  | cons n l ih =>
    intro acc
    have := ih (acc ++ numB n)
    have hb := numB_len n
    rw [List.length_append] at this
    rw [List.length_cons]
    show (putAll (acc ++ numB n) l).length ≤ _
    omega
def putHd (acc : List Int) (h : Hd) : List Int := putAll acc [h.id, h.cl, h.nb, h.un, h.ti] ++ numB h.sp.size ++ strB h.sp
theorem putHd_len (acc : List Int) (h : Hd) : (putHd acc h).length ≤ acc.length + 54 + h.sp.size := by
  have h1 := putAll_len [h.id, h.cl, h.nb, h.un, h.ti] acc
  have h2 := numB_len h.sp.size
  unfold putHd
  rw [List.length_append, List.length_append, strB_len]
  simp only [List.length_cons, List.length_nil] at h1
  omega
def putHs (acc : List Int) (l : List Hd) : List Int := l.foldl putHd acc
def putLg (b : List Int) (l : Lg) : List Int := putHs (putAll b [l.q, l.u, l.he, l.nx, l.hs.length]) l.hs
/-- How many bytes the names have. -/
def nameN (l : List Hd) : Nat := (l.map fun h => h.sp.size).sum
theorem putHs_len (l : List Hd) : ∀ acc, (putHs acc l).length ≤ acc.length + 54 * l.length + nameN l := by
  induction l with
  | nil => intro acc; exact Nat.le_refl _
  | cons h l ih =>
    intro acc
    have h1 := ih (putHd acc h)
    have h2 := putHd_len acc h
    simp only [nameN, List.map_cons, List.sum_cons, List.length_cons] at h1 ⊢
    show (putHs (putHd acc h) l).length ≤ _
    omega
def tg (k : Nat) : Tag := if k = 0 then .shr else .own 1 false
theorem tg_succ (k : Nat) : tg (k + 1) = .own 1 false := rfl
def tg2 (k : Nat) : Tag := if k = 0 then .shr else .own 1 false
theorem tg2_succ (k : Nat) : tg2 (k + 1) = .own 1 false := rfl
theorem ledger_put (b : List Int) (l : List Int) (hl : ∀ n ∈ l, I64 n) (hm : l.length ≤ 10) (hb : b.length ≤ 3000000) : CT n_ledger_put [.sl .shr (bl b), .sl .shr (l.map (.int .i64))] H = some ⟨.sl .shr (bl (putAll b l)), H, false⟩ := by
  refine callT_of rfl tab_ledger_put ?_
  simp (maxSteps := 4000000) only [↓set16, ↓sl16, zaa, zab, zac, zad, zz0, zz1, zz2, zz3, zz4, zae, zaf, zag, zah, zai, zaj, zak, zal, zam, zan, zao, zap, zaq, zar, zas, zat, zau, zav, zaw, zax, zay, zaz, zba, zbb, zbc, zbd, zbe, zbf, zbg, zbh, zbi, zbj, zbk, zbl, zbm, zbn, zbo, zbp, zbq, zbr, zbs, zbt, zbu, zbv, zbw, zbx, zby, zbz, zca, zcb, zcc, zcd, zce, zcf, zcg, zch, zci, zcj, zck, zcl, zcm, zcn, ne_eq, zco, zcp, zcq, zcr, zcs, List.replicate, zct, zcu, zcv, zcw, zcx, zcy, zcz, zda, zdb, zdc, zdd, zde, zdf, zdg, zdh, zdi, killT, delta, tak, ev, ad, taks, evs, nL, getH, pack, arith, callD, Nat.reduceAdd, Nat.reduceSub, Nat.reduceMul, Nat.reduceLeDiff, Nat.reduceEqDiff, Nat.reduceBEq, Nat.reduceBNe, Nat.reduceLT, Nat.reduceDiv, Int.reduceNeg, Int.reduceLT, Int.reduceLE, Int.reduceEq, Int.reduceNe, Int.reduceAdd, Int.reduceSub, Int.reduceMul, Int.reduceToNat, Int.reduceBEq, Int.reduceBNe, fillP, fillE, okE, okW, bound, elS, srcS, Fin, finish, ress, resOf, one, keeps, ↓reduceIte, Dl.ap, Dl.slots, okD, isLp, zeros, reduceCtorEq, zdj, zdk, tf_ledger_put, List.length_map]
  refine loopI l (by omega) (fun acc suf => ⟨.sl .shr (bl (putAll acc suf)), H, false⟩) (fun k acc => ⟨(.sl (tg k) (bl acc) :: TV.junk :: TV.tup [] :: TV.tup [] :: TV.junk :: TV.tup [] :: TV.junk :: .sl .shr (l.map (.int .i64)) :: .int .i64 l.length :: .int .i64 k :: TV.junk :: TV.junk :: TV.junk :: TV.junk :: TV.junk :: TV.junk :: TV.junk :: TV.tup [] :: []), H, H.length, false⟩) (fun k acc => acc.length ≤ b.length + 9 * k) ?_ ?_ b (Nat.le_refl _)
  · intro acc hi hq
    have e : putAll acc [] = acc := rfl
    rw [e, Run_loop]
    simp (maxSteps := 4000000) only [↓set16, ↓sl16, zaa, zab, zac, zad, zz0, zz1, zz2, zz3, zz4, zae, zaf, zag, zah, zai, zaj, zak, zal, zam, zan, zao, zap, zaq, zar, zas, zat, zau, zav, zaw, zax, zay, zaz, zba, zbb, zbc, zbd, zbe, zbf, zbg, zbh, zbi, zbj, zbk, zbl, zbm, zbn, zbo, zbp, zbq, zbr, zbs, zbt, zbu, zbv, zbw, zbx, zby, zbz, zca, zcb, zcc, zcd, zce, zcf, zcg, zch, zci, zcj, zck, zcl, zcm, zcn, ne_eq, zco, zcp, zcq, zcr, zcs, List.replicate, zct, zcu, zcv, zcw, zcx, zcy, zcz, zda, zdb, zdc, zdd, zde, zdf, zdg, zdh, zdi, killT, delta, tak, ev, ad, taks, evs, nL, getH, pack, arith, callD, Nat.reduceAdd, Nat.reduceSub, Nat.reduceMul, Nat.reduceLeDiff, Nat.reduceEqDiff, Nat.reduceBEq, Nat.reduceBNe, Nat.reduceLT, Nat.reduceDiv, Int.reduceNeg, Int.reduceLT, Int.reduceLE, Int.reduceEq, Int.reduceNe, Int.reduceAdd, Int.reduceSub, Int.reduceMul, Int.reduceToNat, Int.reduceBEq, Int.reduceBNe, fillP, fillE, okE, okW, bound, elS, srcS, Fin, finish, ress, resOf, one, keeps, ↓reduceIte, Dl.ap, Dl.slots, okD, isLp, zeros, reduceCtorEq, zdj, zdk, lp_ledger_put_1, hq]
  · intro k n acc rest hi hx hk hk0 hw ih
    have hg := map_get (f := TV.int .i64) hx
    have hn := hl n (List.mem_of_getElem? hx)
    have hk' : k < l.length := by omega
    have hP := pack_Num (H := H) acc n hn (by omega)
    have hb2 := numB_len n
    have hgo := ih (acc ++ numB n) (by rw [List.length_append]; omega)
    rw [tg_succ] at hgo
    have e : putAll acc (n :: rest) = putAll (acc ++ numB n) rest := rfl
    rw [e, Run_loop]
    simp (maxSteps := 4000000) only [↓set16, ↓sl16, zaa, zab, zac, zad, zz0, zz1, zz2, zz3, zz4, zae, zaf, zag, zah, zai, zaj, zak, zal, zam, zan, zao, zap, zaq, zar, zas, zat, zau, zav, zaw, zax, zay, zaz, zba, zbb, zbc, zbd, zbe, zbf, zbg, zbh, zbi, zbj, zbk, zbl, zbm, zbn, zbo, zbp, zbq, zbr, zbs, zbt, zbu, zbv, zbw, zbx, zby, zbz, zca, zcb, zcc, zcd, zce, zcf, zcg, zch, zci, zcj, zck, zcl, zcm, zcn, ne_eq, zco, zcp, zcq, zcr, zcs, List.replicate, zct, zcu, zcv, zcw, zcx, zcy, zcz, zda, zdb, zdc, zdd, zde, zdf, zdg, zdh, zdi, killT, delta, tak, ev, ad, taks, evs, nL, getH, pack, arith, callD, Nat.reduceAdd, Nat.reduceSub, Nat.reduceMul, Nat.reduceLeDiff, Nat.reduceEqDiff, Nat.reduceBEq, Nat.reduceBNe, Nat.reduceLT, Nat.reduceDiv, Int.reduceNeg, Int.reduceLT, Int.reduceLE, Int.reduceEq, Int.reduceNe, Int.reduceAdd, Int.reduceSub, Int.reduceMul, Int.reduceToNat, Int.reduceBEq, Int.reduceBNe, fillP, fillE, okE, okW, bound, elS, srcS, Fin, finish, ress, resOf, one, keeps, ↓reduceIte, Dl.ap, Dl.slots, okD, isLp, zeros, reduceCtorEq, zdj, zdk, lp_ledger_put_1, hk, hk0, hg, Int.toNat_natCast, hP, hw]
    exact hgo
theorem ledger_Put (b : List Int) (l : Lg) (hl : l.ok) (hb : b.length ≤ 1000000) (hm : l.hs.length ≤ 30) (hn : nameN l.hs ≤ 1048576) : CT n_ledger_Put [.sl .shr (bl b), l.tv] H = some ⟨.sl .shr (bl (putLg b l)), H, false⟩ := by
  have hP := ledger_put (H := H) b [l.q, l.u, l.he, l.nx, l.hs.length] (by
    intro n hn; simp at hn; rcases hn with rfl | rfl | rfl | rfl | rfl
    · exact hl.q
    · exact hl.u
    · exact hl.he
    · exact hl.nx
    · unfold I64; omega) (by simp) (by omega)
  have h0 := putAll_len [l.q, l.u, l.he, l.nx, l.hs.length] b
  simp only [List.length_cons, List.length_nil] at h0
  simp only [List.map_cons, List.map_nil] at hP
  unfold putLg
  generalize putAll b [l.q, l.u, l.he, l.nx, l.hs.length] = B at *
  rw [Lg.tv_eq]
  refine callT_of rfl tab_ledger_Put ?_
  simp (maxSteps := 4000000) only [↓set16, ↓sl16, zaa, zab, zac, zad, zz0, zz1, zz2, zz3, zz4, zae, zaf, zag, zah, zai, zaj, zak, zal, zam, zan, zao, zap, zaq, zar, zas, zat, zau, zav, zaw, zax, zay, zaz, zba, zbb, zbc, zbd, zbe, zbf, zbg, zbh, zbi, zbj, zbk, zbl, zbm, zbn, zbo, zbp, zbq, zbr, zbs, zbt, zbu, zbv, zbw, zbx, zby, zbz, zca, zcb, zcc, zcd, zce, zcf, zcg, zch, zci, zcj, zck, zcl, zcm, zcn, ne_eq, zco, zcp, zcq, zcr, zcs, List.replicate, zct, zcu, zcv, zcw, zcx, zcy, zcz, zda, zdb, zdc, zdd, zde, zdf, zdg, zdh, zdi, killT, delta, tak, ev, ad, taks, evs, nL, getH, pack, arith, callD, Nat.reduceAdd, Nat.reduceSub, Nat.reduceMul, Nat.reduceLeDiff, Nat.reduceEqDiff, Nat.reduceBEq, Nat.reduceBNe, Nat.reduceLT, Nat.reduceDiv, Int.reduceNeg, Int.reduceLT, Int.reduceLE, Int.reduceEq, Int.reduceNe, Int.reduceAdd, Int.reduceSub, Int.reduceMul, Int.reduceToNat, Int.reduceBEq, Int.reduceBNe, fillP, fillE, okE, okW, bound, elS, srcS, Fin, finish, ress, resOf, one, keeps, ↓reduceIte, Dl.ap, Dl.slots, okD, isLp, zeros, reduceCtorEq, zdj, zdk, tf_ledger_Put, List.length_map, hP]
  refine loopI l.hs (by omega) (fun acc suf => ⟨.sl .shr (bl (putHs acc suf)), H, false⟩) (fun k acc => ⟨(.sl (tg2 k) (bl acc) :: TV.junk :: TV.tup [] :: TV.junk :: TV.junk :: TV.tup [] :: TV.junk :: TV.junk :: TV.junk :: TV.junk :: TV.junk :: TV.junk :: TV.junk :: TV.junk :: TV.junk :: TV.junk :: TV.junk :: TV.junk :: TV.junk :: TV.junk :: TV.junk :: TV.junk :: .sl .shr (l.hs.map Hd.tv) :: .int .i64 l.hs.length :: .int .i64 k :: TV.junk :: TV.junk :: TV.junk :: TV.junk :: TV.junk :: TV.junk :: TV.junk :: TV.junk :: TV.junk :: TV.junk :: TV.junk :: TV.junk :: TV.junk :: TV.junk :: TV.junk :: TV.junk :: TV.junk :: TV.junk :: TV.junk :: TV.junk :: TV.junk :: TV.tup [] :: []), H, H.length, false⟩) (fun k acc => acc.length + nameN (l.hs.drop k) ≤ B.length + nameN l.hs + 54 * k) ?_ ?_ B (by simp)
  · intro acc hi hq
    have e : putHs acc [] = acc := rfl
    rw [e, Run_loop]
    simp (maxSteps := 4000000) only [↓set16, ↓sl16, zaa, zab, zac, zad, zz0, zz1, zz2, zz3, zz4, zae, zaf, zag, zah, zai, zaj, zak, zal, zam, zan, zao, zap, zaq, zar, zas, zat, zau, zav, zaw, zax, zay, zaz, zba, zbb, zbc, zbd, zbe, zbf, zbg, zbh, zbi, zbj, zbk, zbl, zbm, zbn, zbo, zbp, zbq, zbr, zbs, zbt, zbu, zbv, zbw, zbx, zby, zbz, zca, zcb, zcc, zcd, zce, zcf, zcg, zch, zci, zcj, zck, zcl, zcm, zcn, ne_eq, zco, zcp, zcq, zcr, zcs, List.replicate, zct, zcu, zcv, zcw, zcx, zcy, zcz, zda, zdb, zdc, zdd, zde, zdf, zdg, zdh, zdi, killT, delta, tak, ev, ad, taks, evs, nL, getH, pack, arith, callD, Nat.reduceAdd, Nat.reduceSub, Nat.reduceMul, Nat.reduceLeDiff, Nat.reduceEqDiff, Nat.reduceBEq, Nat.reduceBNe, Nat.reduceLT, Nat.reduceDiv, Int.reduceNeg, Int.reduceLT, Int.reduceLE, Int.reduceEq, Int.reduceNe, Int.reduceAdd, Int.reduceSub, Int.reduceMul, Int.reduceToNat, Int.reduceBEq, Int.reduceBNe, fillP, fillE, okE, okW, bound, elS, srcS, Fin, finish, ress, resOf, one, keeps, ↓reduceIte, Dl.ap, Dl.slots, okD, isLp, zeros, reduceCtorEq, zdj, zdk, lp_ledger_Put_1, List.length_map, hq]
  · intro k x acc rest hi hx hk hk0 hw ih
    have hg := map_get (f := Hd.tv) hx
    rw [Hd.tv_eq] at hg
    have hxo := hl.hs x (List.mem_of_getElem? hx)
    have hk' : k < l.hs.length := by omega
    have hdr : l.hs.drop k = x :: l.hs.drop (k + 1) := by
      obtain ⟨h1, h2⟩ := List.getElem?_eq_some_iff.1 hx
      rw [List.drop_eq_getElem_cons h1, h2]
    have hnm : nameN (l.hs.drop k) = x.sp.size + nameN (l.hs.drop (k + 1)) := by rw [hdr]; simp [nameN]
    have h2 := putHd_len acc x
    have hgo := ih (putHd acc x) (by omega)
    have e : putHs acc (x :: rest) = putHs (putHd acc x) rest := rfl
    have hQ := ledger_put (H := H) acc [x.id, x.cl, x.nb, x.un, x.ti] (by
      intro n hn; simp at hn; rcases hn with rfl | rfl | rfl | rfl | rfl
      · exact hxo.id
      · exact hxo.cl
      · exact hxo.nb
      · exact hxo.un
      · exact hxo.ti) (by simp) (by omega)
    simp only [List.map_cons, List.map_nil] at hQ
    have h3 := putAll_len [x.id, x.cl, x.nb, x.un, x.ti] acc
    simp only [List.length_cons, List.length_nil] at h3
    have hT := pack_Text (H := H) (putAll acc [x.id, x.cl, x.nb, x.un, x.ti]) x.sp (by omega) (by omega)
    have e2 : putAll acc [x.id, x.cl, x.nb, x.un, x.ti] ++ numB x.sp.size ++ strB x.sp = putHd acc x := rfl
    rw [e2] at hT
    generalize putAll acc [x.id, x.cl, x.nb, x.un, x.ti] = A at *
    generalize putHd acc x = A2 at *
    rw [tg2_succ] at hgo
    rw [e, Run_loop]
    simp (maxSteps := 4000000) only [↓set16, ↓sl16, zaa, zab, zac, zad, zz0, zz1, zz2, zz3, zz4, zae, zaf, zag, zah, zai, zaj, zak, zal, zam, zan, zao, zap, zaq, zar, zas, zat, zau, zav, zaw, zax, zay, zaz, zba, zbb, zbc, zbd, zbe, zbf, zbg, zbh, zbi, zbj, zbk, zbl, zbm, zbn, zbo, zbp, zbq, zbr, zbs, zbt, zbu, zbv, zbw, zbx, zby, zbz, zca, zcb, zcc, zcd, zce, zcf, zcg, zch, zci, zcj, zck, zcl, zcm, zcn, ne_eq, zco, zcp, zcq, zcr, zcs, List.replicate, zct, zcu, zcv, zcw, zcx, zcy, zcz, zda, zdb, zdc, zdd, zde, zdf, zdg, zdh, zdi, killT, delta, tak, ev, ad, taks, evs, nL, getH, pack, arith, callD, Nat.reduceAdd, Nat.reduceSub, Nat.reduceMul, Nat.reduceLeDiff, Nat.reduceEqDiff, Nat.reduceBEq, Nat.reduceBNe, Nat.reduceLT, Nat.reduceDiv, Int.reduceNeg, Int.reduceLT, Int.reduceLE, Int.reduceEq, Int.reduceNe, Int.reduceAdd, Int.reduceSub, Int.reduceMul, Int.reduceToNat, Int.reduceBEq, Int.reduceBNe, fillP, fillE, okE, okW, bound, elS, srcS, Fin, finish, ress, resOf, one, keeps, ↓reduceIte, Dl.ap, Dl.slots, okD, isLp, zeros, reduceCtorEq, zdj, zdk, lp_ledger_Put_1, hk, hk0, hg, Int.toNat_natCast, hQ, hT, hw]
    exact hgo
theorem ref19_Put (b : List Int) (l : Lg) (hl : l.ok) (hb : b.length ≤ 1000000) (hm : l.hs.length ≤ 30) (hn : nameN l.hs ≤ 1048576) : CT n_ref19_Put [.sl .shr (bl b), l.tv] H = some ⟨.sl .shr (bl (putLg b l)), H, false⟩ := by
  have b1 := numB_len l.q
  have b2 := numB_len l.u
  have b3 := numB_len l.he
  have b4 := numB_len l.nx
  have P1 := ref02_Num (H := H) b l.q hl.q (by omega)
  have P2 := ref02_Num (H := H) (b ++ numB l.q) l.u hl.u (by rw [List.length_append]; omega)
  have P3 := ref02_Num (H := H) (b ++ numB l.q ++ numB l.u) l.he hl.he (by simp only [List.length_append]; omega)
  have P4 := ref02_Num (H := H) (b ++ numB l.q ++ numB l.u ++ numB l.he) l.nx hl.nx (by simp only [List.length_append]; omega)
  have P5 := ref02_Num (H := H) (b ++ numB l.q ++ numB l.u ++ numB l.he ++ numB l.nx) l.hs.length (by unfold I64; omega) (by simp only [List.length_append]; omega)
  have h0 := putAll_len [l.q, l.u, l.he, l.nx, l.hs.length] b
  simp only [List.length_cons, List.length_nil] at h0
  have e : b ++ numB l.q ++ numB l.u ++ numB l.he ++ numB l.nx ++ numB l.hs.length = putAll b [l.q, l.u, l.he, l.nx, l.hs.length] := rfl
  rw [e] at P5
  unfold putLg
  generalize putAll b [l.q, l.u, l.he, l.nx, l.hs.length] = B at *
  rw [Lg.tv_eq]
  generalize b ++ numB l.q ++ numB l.u ++ numB l.he ++ numB l.nx = B4 at *
  generalize b ++ numB l.q ++ numB l.u ++ numB l.he = B3 at *
  generalize b ++ numB l.q ++ numB l.u = B2 at *
  generalize b ++ numB l.q = B1 at *
  refine callT_of rfl tab_ref19_Put ?_
  simp (maxSteps := 4000000) only [↓set16, ↓sl16, zaa, zab, zac, zad, zz0, zz1, zz2, zz3, zz4, zae, zaf, zag, zah, zai, zaj, zak, zal, zam, zan, zao, zap, zaq, zar, zas, zat, zau, zav, zaw, zax, zay, zaz, zba, zbb, zbc, zbd, zbe, zbf, zbg, zbh, zbi, zbj, zbk, zbl, zbm, zbn, zbo, zbp, zbq, zbr, zbs, zbt, zbu, zbv, zbw, zbx, zby, zbz, zca, zcb, zcc, zcd, zce, zcf, zcg, zch, zci, zcj, zck, zcl, zcm, zcn, ne_eq, zco, zcp, zcq, zcr, zcs, List.replicate, zct, zcu, zcv, zcw, zcx, zcy, zcz, zda, zdb, zdc, zdd, zde, zdf, zdg, zdh, zdi, killT, delta, tak, ev, ad, taks, evs, nL, getH, pack, arith, callD, Nat.reduceAdd, Nat.reduceSub, Nat.reduceMul, Nat.reduceLeDiff, Nat.reduceEqDiff, Nat.reduceBEq, Nat.reduceBNe, Nat.reduceLT, Nat.reduceDiv, Int.reduceNeg, Int.reduceLT, Int.reduceLE, Int.reduceEq, Int.reduceNe, Int.reduceAdd, Int.reduceSub, Int.reduceMul, Int.reduceToNat, Int.reduceBEq, Int.reduceBNe, fillP, fillE, okE, okW, bound, elS, srcS, Fin, finish, ress, resOf, one, keeps, ↓reduceIte, Dl.ap, Dl.slots, okD, isLp, zeros, reduceCtorEq, zdj, zdk, tf_ref19_Put, List.length_map, P1, P2, P3, P4, P5]
  refine loopI l.hs (by omega) (fun acc suf => ⟨.sl .shr (bl (putHs acc suf)), H, false⟩) (fun k acc => ⟨(.sl (.own 1 false) (bl acc) :: TV.junk :: TV.tup [] :: .lbox [.int .i64 l.q, .int .i64 l.u, .int .i64 l.he, .int .i64 l.nx, .sl .shr (l.hs.map Hd.tv)] :: TV.junk :: .int .i64 k :: TV.junk :: TV.junk :: TV.junk :: TV.junk :: TV.junk :: TV.junk :: TV.junk :: TV.junk :: TV.junk :: TV.junk :: TV.junk :: TV.junk :: TV.junk :: TV.junk :: TV.junk :: TV.junk :: TV.junk :: TV.junk :: TV.junk :: TV.junk :: TV.junk :: TV.junk :: TV.junk :: TV.junk :: TV.junk :: TV.junk :: TV.junk :: TV.junk :: TV.junk :: TV.junk :: TV.junk :: TV.junk :: TV.junk :: TV.junk :: TV.junk :: TV.junk :: TV.junk :: TV.junk :: TV.junk :: TV.junk :: TV.junk :: TV.junk :: TV.junk :: TV.junk :: TV.junk :: TV.junk :: TV.junk :: TV.junk :: TV.junk :: TV.junk :: TV.junk :: TV.tup [] :: []), H, H.length, false⟩) (fun k acc => acc.length + nameN (l.hs.drop k) ≤ B.length + nameN l.hs + 54 * k) ?_ ?_ B (by simp)
  · intro acc hi hq
    have e : putHs acc [] = acc := rfl
    rw [e, Run_loop]
    simp (maxSteps := 4000000) only [↓set16, ↓sl16, zaa, zab, zac, zad, zz0, zz1, zz2, zz3, zz4, zae, zaf, zag, zah, zai, zaj, zak, zal, zam, zan, zao, zap, zaq, zar, zas, zat, zau, zav, zaw, zax, zay, zaz, zba, zbb, zbc, zbd, zbe, zbf, zbg, zbh, zbi, zbj, zbk, zbl, zbm, zbn, zbo, zbp, zbq, zbr, zbs, zbt, zbu, zbv, zbw, zbx, zby, zbz, zca, zcb, zcc, zcd, zce, zcf, zcg, zch, zci, zcj, zck, zcl, zcm, zcn, ne_eq, zco, zcp, zcq, zcr, zcs, List.replicate, zct, zcu, zcv, zcw, zcx, zcy, zcz, zda, zdb, zdc, zdd, zde, zdf, zdg, zdh, zdi, killT, delta, tak, ev, ad, taks, evs, nL, getH, pack, arith, callD, Nat.reduceAdd, Nat.reduceSub, Nat.reduceMul, Nat.reduceLeDiff, Nat.reduceEqDiff, Nat.reduceBEq, Nat.reduceBNe, Nat.reduceLT, Nat.reduceDiv, Int.reduceNeg, Int.reduceLT, Int.reduceLE, Int.reduceEq, Int.reduceNe, Int.reduceAdd, Int.reduceSub, Int.reduceMul, Int.reduceToNat, Int.reduceBEq, Int.reduceBNe, fillP, fillE, okE, okW, bound, elS, srcS, Fin, finish, ress, resOf, one, keeps, ↓reduceIte, Dl.ap, Dl.slots, okD, isLp, zeros, reduceCtorEq, zdj, zdk, lp_ref19_Put_1, List.length_map, hq]
  · intro k x acc rest hi hx hk hk0 hw ih
    have hg := map_get (f := Hd.tv) hx
    rw [Hd.tv_eq] at hg
    have hxo := hl.hs x (List.mem_of_getElem? hx)
    have hk' : k < l.hs.length := by omega
    have hdr : l.hs.drop k = x :: l.hs.drop (k + 1) := by
      obtain ⟨h1, h2⟩ := List.getElem?_eq_some_iff.1 hx
      rw [List.drop_eq_getElem_cons h1, h2]
    have hnm : nameN (l.hs.drop k) = x.sp.size + nameN (l.hs.drop (k + 1)) := by rw [hdr]; simp [nameN]
    have h2 := putHd_len acc x
    have hgo := ih (putHd acc x) (by omega)
    have e : putHs acc (x :: rest) = putHs (putHd acc x) rest := rfl
    have b1 := numB_len x.id
    have b2 := numB_len x.cl
    have b3 := numB_len x.nb
    have b4 := numB_len x.un
    have b5 := numB_len x.ti
    have P1 := ref02_Num (H := H) acc x.id hxo.id (by omega)
    have P2 := ref02_Num (H := H) (acc ++ numB x.id) x.cl hxo.cl (by rw [List.length_append]; omega)
    have P3 := ref02_Num (H := H) (acc ++ numB x.id ++ numB x.cl) x.nb hxo.nb (by simp only [List.length_append]; omega)
    have P4 := ref02_Num (H := H) (acc ++ numB x.id ++ numB x.cl ++ numB x.nb) x.un hxo.un (by simp only [List.length_append]; omega)
    have P5 := ref02_Num (H := H) (acc ++ numB x.id ++ numB x.cl ++ numB x.nb ++ numB x.un) x.ti hxo.ti (by simp only [List.length_append]; omega)
    have P6 := ref02_Text (H := H) (acc ++ numB x.id ++ numB x.cl ++ numB x.nb ++ numB x.un ++ numB x.ti) x.sp (by simp only [List.length_append]; omega) (by omega)
    have e2 : acc ++ numB x.id ++ numB x.cl ++ numB x.nb ++ numB x.un ++ numB x.ti ++ numB x.sp.size ++ strB x.sp = putHd acc x := rfl
    rw [e2] at P6
    generalize acc ++ numB x.id ++ numB x.cl ++ numB x.nb ++ numB x.un ++ numB x.ti = A5 at *
    generalize acc ++ numB x.id ++ numB x.cl ++ numB x.nb ++ numB x.un = A4 at *
    generalize acc ++ numB x.id ++ numB x.cl ++ numB x.nb = A3 at *
    generalize acc ++ numB x.id ++ numB x.cl = A2 at *
    generalize acc ++ numB x.id = A1 at *
    generalize putHd acc x = A6 at *
    rw [e, Run_loop]
    simp (maxSteps := 4000000) only [↓set16, ↓sl16, zaa, zab, zac, zad, zz0, zz1, zz2, zz3, zz4, zae, zaf, zag, zah, zai, zaj, zak, zal, zam, zan, zao, zap, zaq, zar, zas, zat, zau, zav, zaw, zax, zay, zaz, zba, zbb, zbc, zbd, zbe, zbf, zbg, zbh, zbi, zbj, zbk, zbl, zbm, zbn, zbo, zbp, zbq, zbr, zbs, zbt, zbu, zbv, zbw, zbx, zby, zbz, zca, zcb, zcc, zcd, zce, zcf, zcg, zch, zci, zcj, zck, zcl, zcm, zcn, ne_eq, zco, zcp, zcq, zcr, zcs, List.replicate, zct, zcu, zcv, zcw, zcx, zcy, zcz, zda, zdb, zdc, zdd, zde, zdf, zdg, zdh, zdi, killT, delta, tak, ev, ad, taks, evs, nL, getH, pack, arith, callD, Nat.reduceAdd, Nat.reduceSub, Nat.reduceMul, Nat.reduceLeDiff, Nat.reduceEqDiff, Nat.reduceBEq, Nat.reduceBNe, Nat.reduceLT, Nat.reduceDiv, Int.reduceNeg, Int.reduceLT, Int.reduceLE, Int.reduceEq, Int.reduceNe, Int.reduceAdd, Int.reduceSub, Int.reduceMul, Int.reduceToNat, Int.reduceBEq, Int.reduceBNe, fillP, fillE, okE, okW, bound, elS, srcS, Fin, finish, ress, resOf, one, keeps, ↓reduceIte, Dl.ap, Dl.slots, okD, isLp, zeros, reduceCtorEq, zdj, zdk, lp_ref19_Put_1, List.length_map, hk, hk0, hg, Int.toNat_natCast, P1, P2, P3, P4, P5, P6, hw]
    exact hgo
end Go.T
