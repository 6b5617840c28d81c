/- Any ledger has the bytes of the document, and any bytes are the ledger that it says. -/
import Derived.Test.YtmmmogcbmfmabaaOldc4
set_option linter.unusedVariables false
set_option linter.unusedSimpArgs false
set_option maxRecDepth 10000
set_option maxHeartbeats 2000000
namespace Go.T
attribute [local irreducible] Run Back RS Ap
variable {H H0 : Heap} {i j : Nat} {s : RSt}
theorem PR.of_live {c : TV} {b : List Int} {e : Int} (hl : Go.T.live H i = some [c, .int .i64 e, .bool true]) (hc : c.shr0 = .sl .shr (bl b)) (hby : ∀ x ∈ b, 0 ≤ x ∧ x ≤ 255) (hb : b.length ≤ 4000000) (he : e ≠ 0 → b = []) : PR H i (b, e) H :=
  ⟨⟨c, (set_same hl).symm, hc⟩, live_lt hl, hby, hb, he⟩
theorem RR.of_live {c : TV} {b : List Int} {e : Int} (hl : Go.T.live H i = some [c, .int .i64 e]) (hc : c.shr0 = .sl .shr (bl b)) (hby : ∀ x ∈ b, 0 ≤ x ∧ x ≤ 255) (hb : b.length ≤ 4000000) (he : e ≠ 0 → b = []) : RR H i (b, e) H :=
  ⟨⟨c, (set_same hl).symm, hc⟩, live_lt hl, hby, hb, he⟩
theorem PR.other (h : PR H0 i s H) (hij : i ≠ j) : Go.T.live H j = Go.T.live H0 j := by
  obtain ⟨c, rfl, _⟩ := h.ex; exact live_set_ne hij
theorem RR.other (h : RR H0 i s H) (hij : i ≠ j) : Go.T.live H j = Go.T.live H0 j := by
  obtain ⟨c, rfl, _⟩ := h.ex; exact live_set_ne hij
theorem bytes_Same (a : List Int) (ha : a.length ≤ 9223372036854775807) : CT n_slices_Equal_byte_byte [.sl .shr (bl a), .sl .shr (bl a)] H = some ⟨.bool true, H, false⟩ := by
  refine callT_of rfl tab_slices_Equal_byte_byte ?_
  simp (maxSteps := 4000000) only [↓set16, ↓sl16, zaa, zab, zac, zad, zz0, zz1, zz2, zz3, zz4, zae, zaf, zag, zah, zai, zaj, zak, zal, zam, zan, zao, zap, zaq, zar, zas, zat, zau, zav, zaw, zax, zay, zaz, zba, zbb, zbc, zbd, zbe, zbf, zbg, zbh, zbi, zbj, zbk, zbl, zbm, zbn, zbo, zbp, zbq, zbr, zbs, zbt, zbu, zbv, zbw, zbx, zby, zbz, zca, zcb, zcc, zcd, zce, zcf, zcg, zch, zci, zcj, zck, zcl, zcm, zcn, ne_eq, zco, zcp, zcq, zcr, zcs, List.replicate, zct, zcu, zcv, zcw, zcx, zcy, zcz, zda, zdb, zdc, zdd, zde, zdf, zdg, zdh, zdi, killT, delta, tak, ev, ad, taks, evs, nL, getH, pack, arith, callD, Nat.reduceAdd, Nat.reduceSub, Nat.reduceMul, Nat.reduceLeDiff, Nat.reduceEqDiff, Nat.reduceBEq, Nat.reduceBNe, Nat.reduceLT, Nat.reduceDiv, Int.reduceNeg, Int.reduceLT, Int.reduceLE, Int.reduceEq, Int.reduceNe, Int.reduceAdd, Int.reduceSub, Int.reduceMul, Int.reduceToNat, Int.reduceBEq, Int.reduceBNe, fillP, fillE, okE, okW, bound, elS, srcS, Fin, finish, ress, resOf, one, keeps, ↓reduceIte, Dl.ap, Dl.slots, okD, isLp, zeros, reduceCtorEq, zdj, zdk, tf_slices_Equal_byte_byte, bl_len, bne_self_eq_false]
  refine loopL a ha (fun (_ : Unit) suf => ⟨.bool true, H, false⟩) (fun k _ => ⟨(.sl .shr (bl a) :: .sl .shr (bl a) :: TV.tup [] :: TV.tup [] :: TV.junk :: TV.junk :: TV.junk :: TV.junk :: TV.junk :: TV.junk :: TV.junk :: TV.junk :: .int .i64 a.length :: .int .i64 k :: TV.junk :: TV.junk :: TV.junk :: TV.junk :: TV.junk :: TV.junk :: TV.junk :: TV.junk :: TV.junk :: TV.junk :: TV.junk :: TV.junk :: []), H, H.length, false⟩) ?_ ?_ ()
  · intro acc hq
    rw [Run_loop]
    simp (maxSteps := 4000000) only [↓set16, ↓sl16, zaa, zab, zac, zad, zz0, zz1, zz2, zz3, zz4, zae, zaf, zag, zah, zai, zaj, zak, zal, zam, zan, zao, zap, zaq, zar, zas, zat, zau, zav, zaw, zax, zay, zaz, zba, zbb, zbc, zbd, zbe, zbf, zbg, zbh, zbi, zbj, zbk, zbl, zbm, zbn, zbo, zbp, zbq, zbr, zbs, zbt, zbu, zbv, zbw, zbx, zby, zbz, zca, zcb, zcc, zcd, zce, zcf, zcg, zch, zci, zcj, zck, zcl, zcm, zcn, ne_eq, zco, zcp, zcq, zcr, zcs, List.replicate, zct, zcu, zcv, zcw, zcx, zcy, zcz, zda, zdb, zdc, zdd, zde, zdf, zdg, zdh, zdi, killT, delta, tak, ev, ad, taks, evs, nL, getH, pack, arith, callD, Nat.reduceAdd, Nat.reduceSub, Nat.reduceMul, Nat.reduceLeDiff, Nat.reduceEqDiff, Nat.reduceBEq, Nat.reduceBNe, Nat.reduceLT, Nat.reduceDiv, Int.reduceNeg, Int.reduceLT, Int.reduceLE, Int.reduceEq, Int.reduceNe, Int.reduceAdd, Int.reduceSub, Int.reduceMul, Int.reduceToNat, Int.reduceBEq, Int.reduceBNe, fillP, fillE, okE, okW, bound, elS, srcS, Fin, finish, ress, resOf, one, keeps, ↓reduceIte, Dl.ap, Dl.slots, okD, isLp, zeros, reduceCtorEq, zdj, zdk, lp_slices_Equal_byte_byte_1, hq]
  · intro k x acc rest hx hk hk0 hw ih
    have hg := bl_get hx
    rw [Run_loop]
    simp (maxSteps := 4000000) only [↓set16, ↓sl16, zaa, zab, zac, zad, zz0, zz1, zz2, zz3, zz4, zae, zaf, zag, zah, zai, zaj, zak, zal, zam, zan, zao, zap, zaq, zar, zas, zat, zau, zav, zaw, zax, zay, zaz, zba, zbb, zbc, zbd, zbe, zbf, zbg, zbh, zbi, zbj, zbk, zbl, zbm, zbn, zbo, zbp, zbq, zbr, zbs, zbt, zbu, zbv, zbw, zbx, zby, zbz, zca, zcb, zcc, zcd, zce, zcf, zcg, zch, zci, zcj, zck, zcl, zcm, zcn, ne_eq, zco, zcp, zcq, zcr, zcs, List.replicate, zct, zcu, zcv, zcw, zcx, zcy, zcz, zda, zdb, zdc, zdd, zde, zdf, zdg, zdh, zdi, killT, delta, tak, ev, ad, taks, evs, nL, getH, pack, arith, callD, Nat.reduceAdd, Nat.reduceSub, Nat.reduceMul, Nat.reduceLeDiff, Nat.reduceEqDiff, Nat.reduceBEq, Nat.reduceBNe, Nat.reduceLT, Nat.reduceDiv, Int.reduceNeg, Int.reduceLT, Int.reduceLE, Int.reduceEq, Int.reduceNe, Int.reduceAdd, Int.reduceSub, Int.reduceMul, Int.reduceToNat, Int.reduceBEq, Int.reduceBNe, fillP, fillE, okE, okW, bound, elS, srcS, Fin, finish, ress, resOf, one, keeps, ↓reduceIte, Dl.ap, Dl.slots, okD, isLp, zeros, reduceCtorEq, zdj, zdk, lp_slices_Equal_byte_byte_1, hk, hk0, hg, Int.toNat_natCast, bne_self_eq_false, hw]
    exact ih ()
theorem rdHs_len (m : Nat) : ∀ (hs : List Hd) (s : RSt), (rdHs m hs s).1.length = hs.length + m := by
  induction m with
  | zero => intro hs s; rfl
  | succ m ih =>
    intro hs s
    show (rdHs m _ _).1.length = _
    rw [ih]; simp; omega
theorem rdLg_len (s : RSt) : (rdLg s).1.hs.length ≤ 8 := by
  unfold rdLg rdEnd
  simp only
  split
  · exact Nat.zero_le _
  · have h1 := rN_le 8 (by decide) (rN 2147483648 (rN 1099511627776 (rN 1099511627776 (rN 1099511627776 s).2).2).2).2
    simp only [rdHs_len, List.length_nil]
    omega
theorem codes (l m : Lg) (hl : l.ok) (hm : m.ok) (b : List Int) (hby : ∀ x ∈ b, 0 ≤ x ∧ x ≤ 255) (hbl : b.length ≤ 9223372036854775807) (hn : nameN l.hs ≤ 1048576) : CT n_law19_LedgerCodes [l.tv, m.tv, .sl .shr (bl b)] [] = some ⟨.bool true, [], false⟩ := by
  have hfl := law19_few (H := []) l
  have hfm := law19_few (H := []) m
  rw [Lg.tv_eq] at hfl hfm
  by_cases h1 : (l.hs.length : Int) ≤ 30
  rotate_left
  · rw [decide_eq_false h1] at hfl
    rw [Lg.tv_eq, Lg.tv_eq]
    refine callT_of rfl tab_law19_LedgerCodes ?_
    simp (maxSteps := 4000000) only [↓set16, ↓sl16, zaa, zab, zac, zad, zz0, zz1, zz2, zz3, zz4, zae, zaf, zag, zah, zai, zaj, zak, zal, zam, zan, zao, zap, zaq, zar, zas, zat, zau, zav, zaw, zax, zay, zaz, zba, zbb, zbc, zbd, zbe, zbf, zbg, zbh, zbi, zbj, zbk, zbl, zbm, zbn, zbo, zbp, zbq, zbr, zbs, zbt, zbu, zbv, zbw, zbx, zby, zbz, zca, zcb, zcc, zcd, zce, zcf, zcg, zch, zci, zcj, zck, zcl, zcm, zcn, ne_eq, zco, zcp, zcq, zcr, zcs, List.replicate, zct, zcu, zcv, zcw, zcx, zcy, zcz, zda, zdb, zdc, zdd, zde, zdf, zdg, zdh, zdi, killT, delta, tak, ev, ad, taks, evs, nL, getH, pack, arith, callD, Nat.reduceAdd, Nat.reduceSub, Nat.reduceMul, Nat.reduceLeDiff, Nat.reduceEqDiff, Nat.reduceBEq, Nat.reduceBNe, Nat.reduceLT, Nat.reduceDiv, Int.reduceNeg, Int.reduceLT, Int.reduceLE, Int.reduceEq, Int.reduceNe, Int.reduceAdd, Int.reduceSub, Int.reduceMul, Int.reduceToNat, Int.reduceBEq, Int.reduceBNe, fillP, fillE, okE, okW, bound, elS, srcS, Fin, finish, ress, resOf, one, keeps, ↓reduceIte, Dl.ap, Dl.slots, okD, isLp, zeros, reduceCtorEq, zdj, zdk, tf_law19_LedgerCodes, hfl, awake_ok]
  rw [decide_eq_true h1] at hfl
  by_cases h2 : (m.hs.length : Int) ≤ 30
  rotate_left
  · rw [decide_eq_false h2] at hfm
    rw [Lg.tv_eq, Lg.tv_eq]
    refine callT_of rfl tab_law19_LedgerCodes ?_
    simp (maxSteps := 4000000) only [↓set16, ↓sl16, zaa, zab, zac, zad, zz0, zz1, zz2, zz3, zz4, zae, zaf, zag, zah, zai, zaj, zak, zal, zam, zan, zao, zap, zaq, zar, zas, zat, zau, zav, zaw, zax, zay, zaz, zba, zbb, zbc, zbd, zbe, zbf, zbg, zbh, zbi, zbj, zbk, zbl, zbm, zbn, zbo, zbp, zbq, zbr, zbs, zbt, zbu, zbv, zbw, zbx, zby, zbz, zca, zcb, zcc, zcd, zce, zcf, zcg, zch, zci, zcj, zck, zcl, zcm, zcn, ne_eq, zco, zcp, zcq, zcr, zcs, List.replicate, zct, zcu, zcv, zcw, zcx, zcy, zcz, zda, zdb, zdc, zdd, zde, zdf, zdg, zdh, zdi, killT, delta, tak, ev, ad, taks, evs, nL, getH, pack, arith, callD, Nat.reduceAdd, Nat.reduceSub, Nat.reduceMul, Nat.reduceLeDiff, Nat.reduceEqDiff, Nat.reduceBEq, Nat.reduceBNe, Nat.reduceLT, Nat.reduceDiv, Int.reduceNeg, Int.reduceLT, Int.reduceLE, Int.reduceEq, Int.reduceNe, Int.reduceAdd, Int.reduceSub, Int.reduceMul, Int.reduceToNat, Int.reduceBEq, Int.reduceBNe, fillP, fillE, okE, okW, bound, elS, srcS, Fin, finish, ress, resOf, one, keeps, ↓reduceIte, Dl.ap, Dl.slots, okD, isLp, zeros, reduceCtorEq, zdj, zdk, tf_law19_LedgerCodes, hfl, hfm, awake_ok]
  rw [decide_eq_true h2] at hfm
  by_cases h3 : (2000 : Int) < b.length
  · rw [Lg.tv_eq, Lg.tv_eq]
    refine callT_of rfl tab_law19_LedgerCodes ?_
    simp (maxSteps := 4000000) only [↓set16, ↓sl16, zaa, zab, zac, zad, zz0, zz1, zz2, zz3, zz4, zae, zaf, zag, zah, zai, zaj, zak, zal, zam, zan, zao, zap, zaq, zar, zas, zat, zau, zav, zaw, zax, zay, zaz, zba, zbb, zbc, zbd, zbe, zbf, zbg, zbh, zbi, zbj, zbk, zbl, zbm, zbn, zbo, zbp, zbq, zbr, zbs, zbt, zbu, zbv, zbw, zbx, zby, zbz, zca, zcb, zcc, zcd, zce, zcf, zcg, zch, zci, zcj, zck, zcl, zcm, zcn, ne_eq, zco, zcp, zcq, zcr, zcs, List.replicate, zct, zcu, zcv, zcw, zcx, zcy, zcz, zda, zdb, zdc, zdd, zde, zdf, zdg, zdh, zdi, killT, delta, tak, ev, ad, taks, evs, nL, getH, pack, arith, callD, Nat.reduceAdd, Nat.reduceSub, Nat.reduceMul, Nat.reduceLeDiff, Nat.reduceEqDiff, Nat.reduceBEq, Nat.reduceBNe, Nat.reduceLT, Nat.reduceDiv, Int.reduceNeg, Int.reduceLT, Int.reduceLE, Int.reduceEq, Int.reduceNe, Int.reduceAdd, Int.reduceSub, Int.reduceMul, Int.reduceToNat, Int.reduceBEq, Int.reduceBNe, fillP, fillE, okE, okW, bound, elS, srcS, Fin, finish, ress, resOf, one, keeps, ↓reduceIte, Dl.ap, Dl.slots, okD, isLp, zeros, reduceCtorEq, zdj, zdk, tf_law19_LedgerCodes, hfl, hfm, bl_len, gt_iff_lt, h3, awake_ok]
  -- the two readers
  have O1 := pack_Open (H := []) b (by omega)
  have O2 := ref02_Open (H := [] ++ [[.sl .shr (bl b), .int .i64 0, .bool true]]) b (by omega)
  simp only [List.nil_append, List.length_nil, List.length_cons, List.cons_append, Nat.zero_add] at O1 O2
  have P0 : PR [[.sl .shr (bl b), .int .i64 0, .bool true], [.sl .shr (bl b), .int .i64 0]] 0 (b, 0) [[.sl .shr (bl b), .int .i64 0, .bool true], [.sl .shr (bl b), .int .i64 0]] := PR.of_live (c := .sl .shr (bl b)) rfl rfl hby (by omega) (fun h => absurd rfl h)
  have L1 : live [[TV.sl .shr (bl b), .int .i64 0, .bool true], [.sl .shr (bl b), .int .i64 0]] 1 = some [.sl .shr (bl b), .int .i64 0] := rfl
  generalize hH2 : ([[.sl .shr (bl b), .int .i64 0, .bool true], [.sl .shr (bl b), .int .i64 0]] : Heap) = H2 at *
  obtain ⟨H3, V1, P1, W1, R1⟩ := P0.read
  have L1' := P1.other (j := 1) (by decide)
  rw [L1] at L1'
  have Q0 : RR H3 1 (b, 0) H3 := RR.of_live (c := .sl .shr (bl b)) L1' rfl hby (by omega) (fun h => absurd rfl h)
  obtain ⟨H4, V2, Q1, W2, R2⟩ := Q0.read
  have hX := rdLg_len (b, 0)
  -- the first reader, behind the second one's calls
  have P2 : PR H4 0 (rdLg (b, 0)).2 H4 := by
    obtain ⟨c, hlc, hcc⟩ := P1.live
    have := Q1.other (j := 0) (by decide)
    exact PR.of_live (this.trans hlc) hcc P1.by_ P1.len P1.er
  have E1 := P2.err
  have E2 := Q1.err
  have F1 := P2.left
  have F2 := Q1.left
  have S1 := ref19_Same (H := H4) (rdLg (b, 0)).1 (rdLg (b, 0)).1 (by omega)
  rw [sameB_refl] at S1
  have U1 := ledger_Put (H := H4) b l hl (by omega) (by omega) hn
  have U2 := ref19_Put (H := H4) b l hl (by omega) (by omega) hn
  have hpl := putLg_len b l
  have U3 := bytes_Same (H := H4) (putLg b l) (by omega)
  have S2 := ledger_Same (H := H4) l m (by omega)
  have S3 := ref19_Same (H := H4) l m (by omega)
  -- one's own bytes
  have U4 := ledger_Put (H := H4) [] l hl (by simp) (by omega) hn
  have hpl0 := putLg_len [] l
  simp only [List.length_nil] at hpl0
  have O3 := pack_Open (H := H4) (putLg [] l) (by omega)
  have hby0 := putLg_by [] l hl (by simp) (by omega) hn
  have P5 := PR.open_ (H := H4) (putLg [] l) (by omega) hby0
  generalize hH5 : H4 ++ [[.sl .shr (bl (putLg [] l)), .int .i64 0, .bool true]] = H5 at *
  obtain ⟨H6, V3, P6, W3, R3⟩ := P5.read
  have C1 := ledger_Check (H := H5) l hl
  have a0 := W1.s
  have a1 := W1.c
  have b0 := W2.s
  have b1 := W2.c
  have c0 := W3.s
  have c1 := W3.c
  have nb : bl [] = [] := rfl
  rw [nb] at U4
  generalize hX1 : rdLg (b, 0) = X at *
  obtain ⟨x, sx⟩ := X
  simp only at *
  rw [Lg.tv_eq] at U1 U2 U4 C1
  rw [Lg.tv_eq, Lg.tv_eq] at S2 S3
  rw [Lg.tv_eq] at S1
  unfold Lg.tvw at R1 R2
  cases hc : checkB l
  · rw [hc] at C1
    rw [Lg.tv_eq, Lg.tv_eq]
    refine callT_of rfl tab_law19_LedgerCodes ?_
    simp (maxSteps := 4000000) only [↓set16, ↓sl16, zaa, zab, zac, zad, zz0, zz1, zz2, zz3, zz4, zae, zaf, zag, zah, zai, zaj, zak, zal, zam, zan, zao, zap, zaq, zar, zas, zat, zau, zav, zaw, zax, zay, zaz, zba, zbb, zbc, zbd, zbe, zbf, zbg, zbh, zbi, zbj, zbk, zbl, zbm, zbn, zbo, zbp, zbq, zbr, zbs, zbt, zbu, zbv, zbw, zbx, zby, zbz, zca, zcb, zcc, zcd, zce, zcf, zcg, zch, zci, zcj, zck, zcl, zcm, zcn, ne_eq, zco, zcp, zcq, zcr, zcs, List.replicate, zct, zcu, zcv, zcw, zcx, zcy, zcz, zda, zdb, zdc, zdd, zde, zdf, zdg, zdh, zdi, killT, delta, tak, ev, ad, taks, evs, nL, getH, pack, arith, callD, Nat.reduceAdd, Nat.reduceSub, Nat.reduceMul, Nat.reduceLeDiff, Nat.reduceEqDiff, Nat.reduceBEq, Nat.reduceBNe, Nat.reduceLT, Nat.reduceDiv, Int.reduceNeg, Int.reduceLT, Int.reduceLE, Int.reduceEq, Int.reduceNe, Int.reduceAdd, Int.reduceSub, Int.reduceMul, Int.reduceToNat, Int.reduceBEq, Int.reduceBNe, fillP, fillE, okE, okW, bound, elS, srcS, Fin, finish, ress, resOf, one, keeps, ↓reduceIte, Dl.ap, Dl.slots, okD, isLp, zeros, reduceCtorEq, zdj, zdk, tf_law19_LedgerCodes, hfl, hfm, bl_len, gt_iff_lt, h3, O1, O2, hH2, R1, R2, a0, a1, b0, b1, U1, U2, U3, S1, E1, E2, F1, F2, bne_self_eq_false, S2, S3, BEq.rfl, U4, O3, C1, awake_ok]
  · have hg := (good_iff l).1 hc
    rw [rdLg_back l hg] at P6 R3 c0
    have hE6 := P6.end_
    rw [if_neg (by simp)] at hE6
    have S4 := ledger_Same (H := H6) l l (by omega)
    rw [sameB_refl] at S4
    rw [Lg.tv_eq] at S4
    unfold Lg.tvw at R3
    rw [hc] at C1
    rw [Lg.tv_eq, Lg.tv_eq]
    refine callT_of rfl tab_law19_LedgerCodes ?_
    simp (maxSteps := 4000000) only [↓set16, ↓sl16, zaa, zab, zac, zad, zz0, zz1, zz2, zz3, zz4, zae, zaf, zag, zah, zai, zaj, zak, zal, zam, zan, zao, zap, zaq, zar, zas, zat, zau, zav, zaw, zax, zay, zaz, zba, zbb, zbc, zbd, zbe, zbf, zbg, zbh, zbi, zbj, zbk, zbl, zbm, zbn, zbo, zbp, zbq, zbr, zbs, zbt, zbu, zbv, zbw, zbx, zby, zbz, zca, zcb, zcc, zcd, zce, zcf, zcg, zch, zci, zcj, zck, zcl, zcm, zcn, ne_eq, zco, zcp, zcq, zcr, zcs, List.replicate, zct, zcu, zcv, zcw, zcx, zcy, zcz, zda, zdb, zdc, zdd, zde, zdf, zdg, zdh, zdi, killT, delta, tak, ev, ad, taks, evs, nL, getH, pack, arith, callD, Nat.reduceAdd, Nat.reduceSub, Nat.reduceMul, Nat.reduceLeDiff, Nat.reduceEqDiff, Nat.reduceBEq, Nat.reduceBNe, Nat.reduceLT, Nat.reduceDiv, Int.reduceNeg, Int.reduceLT, Int.reduceLE, Int.reduceEq, Int.reduceNe, Int.reduceAdd, Int.reduceSub, Int.reduceMul, Int.reduceToNat, Int.reduceBEq, Int.reduceBNe, fillP, fillE, okE, okW, bound, elS, srcS, Fin, finish, ress, resOf, one, keeps, ↓reduceIte, Dl.ap, Dl.slots, okD, isLp, zeros, reduceCtorEq, zdj, zdk, tf_law19_LedgerCodes, hfl, hfm, bl_len, gt_iff_lt, h3, O1, O2, hH2, R1, R2, a0, a1, b0, b1, U1, U2, U3, S1, E1, E2, F1, F2, bne_self_eq_false, S2, S3, BEq.rfl, U4, O3, C1, R3, c0, c1, S4, hE6, awake_ok]
end Go.T
