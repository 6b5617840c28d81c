/- What the ledger's readers answer. -/
import Derived.Test.YtmmmogcbmfmabaaOldc1
set_option linter.unusedVariables false
set_option linter.unusedSimpArgs false
set_option maxRecDepth 10000
set_option maxHeartbeats 1000000
namespace Go.T
attribute [local irreducible] Run Back RS Ap
def rdHd (s : RSt) : Hd × RSt :=
  let a := rN 2147483648 s
  let b := rN 7 a.2
  let c := rN 1099511627776 b.2
  let d := rN 1099511627776 c.2
  let e := rN 1099511627776 d.2
  let t := rT 16 e.2
  (⟨a.1, b.1, c.1, d.1, e.1, t.1⟩, t.2)
theorem rN_I64 (m : Int) (hm : 0 ≤ m ∧ m ≤ 1099511627776) (s : RSt) : I64 (rN m s).1 := by
  have h1 := rN_nn m s
  have h2 := rN_le m hm.1 s
  unfold I64; omega
theorem rdHd_ok (s : RSt) : (rdHd s).1.ok := ⟨rN_I64 _ (by decide) _, rN_I64 _ (by decide) _, rN_I64 _ (by decide) _, rN_I64 _ (by decide) _, rN_I64 _ (by decide) _⟩
def rdHs : Nat → List Hd → RSt → List Hd × RSt
  | 0, hs, s => (hs, s)
  | m + 1, hs, s => rdHs m (hs ++ [(rdHd s).1]) (rdHd s).2
def zLg : Lg := ⟨0, 0, 0, 0, []⟩
def rdSt (l : Lg) (s : RSt) : RSt := if checkB l = true then s else if s.2 = 0 then ([], 3) else s
def rdEnd (l : Lg) (s : RSt) : Lg × RSt := if (rdSt l s).2 ≠ 0 then (zLg, rdSt l s) else (l, rdSt l s)
def rdLg (s : RSt) : Lg × RSt :=
  let a := rN 1099511627776 s
  let b := rN 1099511627776 a.2
  let c := rN 1099511627776 b.2
  let d := rN 2147483648 c.2
  let n := rN 8 d.2
  let r := rdHs n.1.toNat [] n.2
  rdEnd ⟨a.1, b.1, c.1, d.1, r.1⟩ r.2
variable {H0 H : Heap} {i : Nat} {s : RSt}
theorem trim_eq {fz : Bool} {v : TV} {h : Heap} {k : Bool} {b : Nat} (hb : h.length = b) : trim fz b ⟨v, h, k⟩ = ⟨v, h, k⟩ := by
  rw [← hb]; exact trim_refl
theorem PR.hold (h : PR H0 i s H) : ∃ H', PR H0 i (rdHd s).2 H' ∧ CT n_ledger_hold [.ptr i 0] H = some ⟨(rdHd s).1.tv, H', false⟩ := by
  obtain ⟨H1, p1, C1⟩ := h.num 2147483648 (by decide)
  obtain ⟨H2, p2, C2⟩ := p1.num 7 (by decide)
  obtain ⟨H3, p3, C3⟩ := p2.num 1099511627776 (by decide)
  obtain ⟨H4, p4, C4⟩ := p3.num 1099511627776 (by decide)
  obtain ⟨H5, p5, C5⟩ := p4.num 1099511627776 (by decide)
  obtain ⟨H6, p6, C6⟩ := p5.text 16 (by decide)
  refine ⟨H6, p6, ?_⟩
  have hlen := h.length
  have ht := trim_eq (fz := true) (v := (rdHd s).1.tv) (h := H6) (k := false) p6.length
  rw [Hd.tv_eq] at ht ⊢
  unfold rdHd at ht ⊢
  simp only at ht ⊢
  refine callT_of rfl tab_ledger_hold ?_
  simp (maxSteps := 4000000) only [↓set16, ↓sl16, zaa, zab, zac, zad, zz0, zz1, zz2, zz3, zz4, zae, zaf, zag, zah, zai, zaj, zak, zal, zam, zan, zao, zap, zaq, zar, zas, zat, zau, zav, zaw, zax, zay, zaz, zba, zbb, zbc, zbd, zbe, zbf, zbg, zbh, zbi, zbj, zbk, zbl, zbm, zbn, zbo, zbp, zbq, zbr, zbs, zbt, zbu, zbv, zbw, zbx, zby, zbz, zca, zcb, zcc, zcd, zce, zcf, zcg, zch, zci, zcj, zck, zcl, zcm, zcn, ne_eq, zco, zcp, zcq, zcr, zcs, List.replicate, zct, zcu, zcv, zcw, zcx, zcy, zcz, zda, zdb, zdc, zdd, zde, zdf, zdg, zdh, zdi, killT, delta, tak, ev, ad, taks, evs, nL, getH, pack, arith, callD, Nat.reduceAdd, Nat.reduceSub, Nat.reduceMul, Nat.reduceLeDiff, Nat.reduceEqDiff, Nat.reduceBEq, Nat.reduceBNe, Nat.reduceLT, Nat.reduceDiv, Int.reduceNeg, Int.reduceLT, Int.reduceLE, Int.reduceEq, Int.reduceNe, Int.reduceAdd, Int.reduceSub, Int.reduceMul, Int.reduceToNat, Int.reduceBEq, Int.reduceBNe, fillP, fillE, okE, okW, bound, elS, srcS, Fin, finish, ress, resOf, one, keeps, ↓reduceIte, Dl.ap, Dl.slots, okD, isLp, zeros, reduceCtorEq, zdj, zdk, tf_ledger_hold, hlen, C1, C2, C3, C4, C5, C6, ht]
theorem PR.loop (m : Nat) : ∀ (l : Lg) (hl : l.ok) (s : RSt) (H : Heap) (V : TV), PR H0 i s H → l.hs.length + m ≤ 1000 → V = ownV l.hs → ∃ H' V', PR H0 i (rdEnd { l with hs := (rdHs m l.hs s).1 } (rdHs m l.hs s).2).2 H' ∧ RdL V' (rdEnd { l with hs := (rdHs m l.hs s).1 } (rdHs m l.hs s).2).1.hs ∧
    Run ⟨CT, true, [TRes.cell 2 true 5], ⟨(rdEnd { l with hs := (rdHs m l.hs s).1 } (rdHs m l.hs s).2).1.tvw V', H', false⟩⟩ [Fr.blk 0, Fr.seq (((TC.reg [{ d := some 27, op := .ldl false true 5 3 (.s 3), g := none }, { d := some 28, op := .call 0 n_ledger_Check [(false, .s 27)], g := none }, { d := some 29, op := .not (.s 28), g := none }] [4, 17, 27, 28]).seq (TC.cond (.s 29) (TC.reg [{ d := some 30, op := .mv false (.s 0), g := none }, { d := some 31, op := .call 0 n_pack_Reader_Fail [(false, .s 30), (false, .c (.int IntKind.i64 3))], g := none }] [29, 30, 31]) TC.skip)).seq jn_ledger_Read_2)] (.loop lp_ledger_Read_1) ⟨(.ptr i 0 :: TV.tup [] :: .lbox [.int .i64 0, .int .i64 0, .int .i64 0, .int .i64 0, .nils] :: .lbox [.int .i64 l.q, .int .i64 l.u, .int .i64 l.he, .int .i64 l.nx, V] :: .int .i64 m :: TV.junk :: TV.junk :: TV.junk :: TV.junk :: TV.junk :: TV.junk :: TV.junk :: TV.junk :: TV.junk :: TV.junk :: TV.junk :: TV.junk :: TV.junk :: TV.junk :: TV.junk :: TV.junk :: TV.junk :: TV.junk :: TV.junk :: TV.junk :: TV.junk :: TV.junk :: TV.tup [] :: TV.tup [] :: TV.tup [] :: TV.tup [] :: TV.tup [] :: TV.tup [] :: TV.tup [] :: TV.tup [] :: TV.tup [] :: TV.tup [] :: []), H, H0.length, false⟩ := by
  induction m with
  | zero =>
    intro l hl s H V h hm hV
    have e0 : ({ l with hs := (rdHs 0 l.hs s).1 } : Lg) = l := rfl
    have e1 : (rdHs 0 l.hs s).2 = s := rfl
    rw [e0, e1]
    have v0 := ownV_shr0 l.hs
    have v1 := ownV_cell l.hs
    rw [← hV] at v0 v1
    have hC := ledger_Check (H := H) l hl
    rw [Lg.tv_eq] at hC
    have hq : ¬ (0 : Int) < ((0 : Nat) : Int) := by decide
    by_cases hc : checkB l = true
    · have es : rdSt l s = s := if_pos hc
      rw [hc] at hC
      have hE := h.err
      by_cases h0 : s.2 = 0
      · have er : rdEnd l s = (l, s) := by unfold rdEnd; rw [es, if_neg (by simp [h0])]
        rw [er]
        have hb : (s.2 != 0) = false := by simp [h0]
        refine ⟨H, V, h, ⟨v0, v1⟩, ?_⟩
        have ht := trim_eq (fz := true) (v := l.tvw V) (h := H) (k := false) h.length
        unfold Lg.tvw at ht ⊢
        rw [Run_loop]
        simp (maxSteps := 4000000) only [↓set16, ↓sl16, zaa, zab, zac, zad, zz0, zz1, zz2, zz3, zz4, zae, zaf, zag, zah, zai, zaj, zak, zal, zam, zan, zao, zap, zaq, zar, zas, zat, zau, zav, zaw, zax, zay, zaz, zba, zbb, zbc, zbd, zbe, zbf, zbg, zbh, zbi, zbj, zbk, zbl, zbm, zbn, zbo, zbp, zbq, zbr, zbs, zbt, zbu, zbv, zbw, zbx, zby, zbz, zca, zcb, zcc, zcd, zce, zcf, zcg, zch, zci, zcj, zck, zcl, zcm, zcn, ne_eq, zco, zcp, zcq, zcr, zcs, List.replicate, zct, zcu, zcv, zcw, zcx, zcy, zcz, zda, zdb, zdc, zdd, zde, zdf, zdg, zdh, zdi, killT, delta, tak, ev, ad, taks, evs, nL, getH, pack, arith, callD, Nat.reduceAdd, Nat.reduceSub, Nat.reduceMul, Nat.reduceLeDiff, Nat.reduceEqDiff, Nat.reduceBEq, Nat.reduceBNe, Nat.reduceLT, Nat.reduceDiv, Int.reduceNeg, Int.reduceLT, Int.reduceLE, Int.reduceEq, Int.reduceNe, Int.reduceAdd, Int.reduceSub, Int.reduceMul, Int.reduceToNat, Int.reduceBEq, Int.reduceBNe, fillP, fillE, okE, okW, bound, elS, srcS, Fin, finish, ress, resOf, one, keeps, ↓reduceIte, Dl.ap, Dl.slots, okD, isLp, zeros, reduceCtorEq, zdj, zdk, lp_ledger_Read_1, jn_ledger_Read_2, gt_iff_lt, hq, v0, v1, hC, hE, hb, ht]
      · have er : rdEnd l s = (zLg, s) := by unfold rdEnd; rw [es, if_pos h0]
        rw [er]
        have hb : (s.2 != 0) = true := by simp [h0]
        refine ⟨H, .nils, h, ⟨rfl, rfl⟩, ?_⟩
        have ht := trim_eq (fz := true) (v := zLg.tvw .nils) (h := H) (k := false) h.length
        unfold Lg.tvw zLg at ht ⊢
        rw [Run_loop]
        simp (maxSteps := 4000000) only [↓set16, ↓sl16, zaa, zab, zac, zad, zz0, zz1, zz2, zz3, zz4, zae, zaf, zag, zah, zai, zaj, zak, zal, zam, zan, zao, zap, zaq, zar, zas, zat, zau, zav, zaw, zax, zay, zaz, zba, zbb, zbc, zbd, zbe, zbf, zbg, zbh, zbi, zbj, zbk, zbl, zbm, zbn, zbo, zbp, zbq, zbr, zbs, zbt, zbu, zbv, zbw, zbx, zby, zbz, zca, zcb, zcc, zcd, zce, zcf, zcg, zch, zci, zcj, zck, zcl, zcm, zcn, ne_eq, zco, zcp, zcq, zcr, zcs, List.replicate, zct, zcu, zcv, zcw, zcx, zcy, zcz, zda, zdb, zdc, zdd, zde, zdf, zdg, zdh, zdi, killT, delta, tak, ev, ad, taks, evs, nL, getH, pack, arith, callD, Nat.reduceAdd, Nat.reduceSub, Nat.reduceMul, Nat.reduceLeDiff, Nat.reduceEqDiff, Nat.reduceBEq, Nat.reduceBNe, Nat.reduceLT, Nat.reduceDiv, Int.reduceNeg, Int.reduceLT, Int.reduceLE, Int.reduceEq, Int.reduceNe, Int.reduceAdd, Int.reduceSub, Int.reduceMul, Int.reduceToNat, Int.reduceBEq, Int.reduceBNe, fillP, fillE, okE, okW, bound, elS, srcS, Fin, finish, ress, resOf, one, keeps, ↓reduceIte, Dl.ap, Dl.slots, okD, isLp, zeros, reduceCtorEq, zdj, zdk, lp_ledger_Read_1, jn_ledger_Read_2, gt_iff_lt, hq, v0, v1, hC, hE, hb, ht]
    · have es : rdSt l s = if s.2 = 0 then ([], 3) else s := if_neg hc
      have hc' : checkB l = false := by simpa using hc
      rw [hc'] at hC
      obtain ⟨H', p', hF⟩ := h.fail 3 (by decide)
      rw [← es] at p'
      have hE := p'.err
      have hne : (rdSt l s).2 ≠ 0 := by rw [es]; split; decide; assumption
      have er : rdEnd l s = (zLg, rdSt l s) := by unfold rdEnd; rw [if_pos hne]
      rw [er]
      have hb : ((rdSt l s).2 != 0) = true := by simp [hne]
      refine ⟨H', .nils, p', ⟨rfl, rfl⟩, ?_⟩
      have ht := trim_eq (fz := true) (v := zLg.tvw .nils) (h := H') (k := false) p'.length
      unfold Lg.tvw zLg at ht ⊢
      rw [Run_loop]
      simp (maxSteps := 4000000) only [↓set16, ↓sl16, zaa, zab, zac, zad, zz0, zz1, zz2, zz3, zz4, zae, zaf, zag, zah, zai, zaj, zak, zal, zam, zan, zao, zap, zaq, zar, zas, zat, zau, zav, zaw, zax, zay, zaz, zba, zbb, zbc, zbd, zbe, zbf, zbg, zbh, zbi, zbj, zbk, zbl, zbm, zbn, zbo, zbp, zbq, zbr, zbs, zbt, zbu, zbv, zbw, zbx, zby, zbz, zca, zcb, zcc, zcd, zce, zcf, zcg, zch, zci, zcj, zck, zcl, zcm, zcn, ne_eq, zco, zcp, zcq, zcr, zcs, List.replicate, zct, zcu, zcv, zcw, zcx, zcy, zcz, zda, zdb, zdc, zdd, zde, zdf, zdg, zdh, zdi, killT, delta, tak, ev, ad, taks, evs, nL, getH, pack, arith, callD, Nat.reduceAdd, Nat.reduceSub, Nat.reduceMul, Nat.reduceLeDiff, Nat.reduceEqDiff, Nat.reduceBEq, Nat.reduceBNe, Nat.reduceLT, Nat.reduceDiv, Int.reduceNeg, Int.reduceLT, Int.reduceLE, Int.reduceEq, Int.reduceNe, Int.reduceAdd, Int.reduceSub, Int.reduceMul, Int.reduceToNat, Int.reduceBEq, Int.reduceBNe, fillP, fillE, okE, okW, bound, elS, srcS, Fin, finish, ress, resOf, one, keeps, ↓reduceIte, Dl.ap, Dl.slots, okD, isLp, zeros, reduceCtorEq, zdj, zdk, lp_ledger_Read_1, jn_ledger_Read_2, gt_iff_lt, hq, v0, v1, hC, hF, hE, hb, ht]
  | succ m ih =>
    intro l hl s H V h hm hV
    obtain ⟨H1, p1, hH⟩ := h.hold
    have ho := rdHd_ok s
    have hq : (0 : Int) < ((m + 1 : Nat) : Int) := by omega
    have hw : IntKind.i64.wrap (((m + 1 : Nat) : Int) - 1) = (m : Int) := by rw [IntWalk.i64_in _ (by omega)]; omega
    have e : rdHs (m + 1) l.hs s = rdHs m (l.hs ++ [(rdHd s).1]) (rdHd s).2 := rfl
    rw [e]
    generalize rdHd s = r at *
    obtain ⟨x, s1⟩ := r
    simp only at p1 hH ho ⊢
    obtain ⟨H', V', g1, g2, g3⟩ := ih { l with hs := l.hs ++ [x] } ⟨hl.q, hl.u, hl.he, hl.nx, by
      intro y hy; simp only [List.mem_append, List.mem_cons, List.not_mem_nil, or_false] at hy; rcases hy with hy | rfl
      · exact hl.hs y hy
      · exact ho, by simp only [List.length_append, List.length_cons, List.length_nil]; omega⟩ s1 H1 _ p1 (by simp only [List.length_append, List.length_cons, List.length_nil]; omega) rfl
    refine ⟨H', V', g1, g2, ?_⟩
    simp only at g3
    have hV1 : ownV (l.hs ++ [x]) = .sl (.own 6 false) (l.hs.map Hd.tv ++ [.agg [.int .i64 x.id, .int .i64 x.cl, .int .i64 x.nb, .int .i64 x.un, .int .i64 x.ti, .str x.sp]]) := by
      unfold ownV; rw [if_neg (by simp), List.map_append]; rfl
    rw [hV1] at g3
    rw [Hd.tv_eq] at hH
    have r0 : (1 : Nat) * 56 ≤ roomB := by unfold roomB; omega
    have r1 : (1 : Nat) ≤ roomB := by unfold roomB; omega
    have r2 : (l.hs.length + 1) * 56 ≤ roomB := by unfold roomB; omega
    have r3 : l.hs.length + 1 ≤ roomB := by unfold roomB; omega
    have okw := okW_tv' l.hs
    rw [Run_loop]
    rcases ownV_cases l.hs with ⟨e1, e2⟩ | e2
    · rw [e2] at hV
      rw [e1, List.map_nil, List.nil_append] at g3
      simp (maxSteps := 4000000) only [↓set16, ↓sl16, zaa, zab, zac, zad, zz0, zz1, zz2, zz3, zz4, zae, zaf, zag, zah, zai, zaj, zak, zal, zam, zan, zao, zap, zaq, zar, zas, zat, zau, zav, zaw, zax, zay, zaz, zba, zbb, zbc, zbd, zbe, zbf, zbg, zbh, zbi, zbj, zbk, zbl, zbm, zbn, zbo, zbp, zbq, zbr, zbs, zbt, zbu, zbv, zbw, zbx, zby, zbz, zca, zcb, zcc, zcd, zce, zcf, zcg, zch, zci, zcj, zck, zcl, zcm, zcn, ne_eq, zco, zcp, zcq, zcr, zcs, List.replicate, zct, zcu, zcv, zcw, zcx, zcy, zcz, zda, zdb, zdc, zdd, zde, zdf, zdg, zdh, zdi, killT, delta, tak, ev, ad, taks, evs, nL, getH, pack, arith, callD, Nat.reduceAdd, Nat.reduceSub, Nat.reduceMul, Nat.reduceLeDiff, Nat.reduceEqDiff, Nat.reduceBEq, Nat.reduceBNe, Nat.reduceLT, Nat.reduceDiv, Int.reduceNeg, Int.reduceLT, Int.reduceLE, Int.reduceEq, Int.reduceNe, Int.reduceAdd, Int.reduceSub, Int.reduceMul, Int.reduceToNat, Int.reduceBEq, Int.reduceBNe, fillP, fillE, okE, okW, bound, elS, srcS, Fin, finish, ress, resOf, one, keeps, ↓reduceIte, Dl.ap, Dl.slots, okD, isLp, zeros, reduceCtorEq, zdj, zdk, lp_ledger_Read_1, gt_iff_lt, hq, hV, hH, r0, r1, hw]
      rw [e1]
      exact g3
    · rw [e2] at hV
      simp (maxSteps := 4000000) only [↓set16, ↓sl16, zaa, zab, zac, zad, zz0, zz1, zz2, zz3, zz4, zae, zaf, zag, zah, zai, zaj, zak, zal, zam, zan, zao, zap, zaq, zar, zas, zat, zau, zav, zaw, zax, zay, zaz, zba, zbb, zbc, zbd, zbe, zbf, zbg, zbh, zbi, zbj, zbk, zbl, zbm, zbn, zbo, zbp, zbq, zbr, zbs, zbt, zbu, zbv, zbw, zbx, zby, zbz, zca, zcb, zcc, zcd, zce, zcf, zcg, zch, zci, zcj, zck, zcl, zcm, zcn, ne_eq, zco, zcp, zcq, zcr, zcs, List.replicate, zct, zcu, zcv, zcw, zcx, zcy, zcz, zda, zdb, zdc, zdd, zde, zdf, zdg, zdh, zdi, killT, delta, tak, ev, ad, taks, evs, nL, getH, pack, arith, callD, Nat.reduceAdd, Nat.reduceSub, Nat.reduceMul, Nat.reduceLeDiff, Nat.reduceEqDiff, Nat.reduceBEq, Nat.reduceBNe, Nat.reduceLT, Nat.reduceDiv, Int.reduceNeg, Int.reduceLT, Int.reduceLE, Int.reduceEq, Int.reduceNe, Int.reduceAdd, Int.reduceSub, Int.reduceMul, Int.reduceToNat, Int.reduceBEq, Int.reduceBNe, fillP, fillE, okE, okW, bound, elS, srcS, Fin, finish, ress, resOf, one, keeps, ↓reduceIte, Dl.ap, Dl.slots, okD, isLp, zeros, reduceCtorEq, zdj, zdk, lp_ledger_Read_1, gt_iff_lt, hq, hV, hH, r2, r3, okw, List.length_map, hw]
      exact g3
theorem PR.read (h : PR H0 i s H) : ∃ H' V, PR H0 i (rdLg s).2 H' ∧ RdL V (rdLg s).1.hs ∧ CT n_ledger_Read [.ptr i 0] H = some ⟨(rdLg s).1.tvw V, H', false⟩ := by
  obtain ⟨H1, p1, C1⟩ := h.num 1099511627776 (by decide)
  obtain ⟨H2, p2, C2⟩ := p1.num 1099511627776 (by decide)
  obtain ⟨H3, p3, C3⟩ := p2.num 1099511627776 (by decide)
  obtain ⟨H4, p4, C4⟩ := p3.num 2147483648 (by decide)
  obtain ⟨H5, p5, C5⟩ := p4.num 8 (by decide)
  have hlen := h.length
  have n5 := rN_nn 8 (rN 2147483648 (rN 1099511627776 (rN 1099511627776 (rN 1099511627776 s).2).2).2).2
  have m5 := rN_le 8 (by decide) (rN 2147483648 (rN 1099511627776 (rN 1099511627776 (rN 1099511627776 s).2).2).2).2
  have i1 := rN_I64 1099511627776 (by decide) s
  have i2 := rN_I64 1099511627776 (by decide) (rN 1099511627776 s).2
  have i3 := rN_I64 1099511627776 (by decide) (rN 1099511627776 (rN 1099511627776 s).2).2
  have i4 := rN_I64 2147483648 (by decide) (rN 1099511627776 (rN 1099511627776 (rN 1099511627776 s).2).2).2
  unfold rdLg
  simp only
  generalize rN 8 (rN 2147483648 (rN 1099511627776 (rN 1099511627776 (rN 1099511627776 s).2).2).2).2 = t5 at *
  generalize rN 2147483648 (rN 1099511627776 (rN 1099511627776 (rN 1099511627776 s).2).2).2 = t4 at *
  generalize rN 1099511627776 (rN 1099511627776 (rN 1099511627776 s).2).2 = t3 at *
  generalize rN 1099511627776 (rN 1099511627776 s).2 = t2 at *
  generalize rN 1099511627776 s = t1 at *
  obtain ⟨m, hm⟩ := Int.eq_ofNat_of_zero_le n5
  obtain ⟨H', V, g1, g2, g3⟩ := PR.loop m ⟨t1.1, t2.1, t3.1, t4.1, []⟩ ⟨i1, i2, i3, i4, (fun x hx => by cases hx), by simp⟩ t5.2 H5 .nils p5 (by simp; omega) rfl
  have e : t5.1.toNat = m := by omega
  rw [e]
  refine ⟨H', V, g1, g2, ?_⟩
  rw [hm] at C5
  refine callT_of rfl tab_ledger_Read ?_
  simp (maxSteps := 4000000) only [↓set16, ↓sl16, zaa, zab, zac, zad, zz0, zz1, zz2, zz3, zz4, zae, zaf, zag, zah, zai, zaj, zak, zal, zam, zan, zao, zap, zaq, zar, zas, zat, zau, zav, zaw, zax, zay, zaz, zba, zbb, zbc, zbd, zbe, zbf, zbg, zbh, zbi, zbj, zbk, zbl, zbm, zbn, zbo, zbp, zbq, zbr, zbs, zbt, zbu, zbv, zbw, zbx, zby, zbz, zca, zcb, zcc, zcd, zce, zcf, zcg, zch, zci, zcj, zck, zcl, zcm, zcn, ne_eq, zco, zcp, zcq, zcr, zcs, List.replicate, zct, zcu, zcv, zcw, zcx, zcy, zcz, zda, zdb, zdc, zdd, zde, zdf, zdg, zdh, zdi, killT, delta, tak, ev, ad, taks, evs, nL, getH, pack, arith, callD, Nat.reduceAdd, Nat.reduceSub, Nat.reduceMul, Nat.reduceLeDiff, Nat.reduceEqDiff, Nat.reduceBEq, Nat.reduceBNe, Nat.reduceLT, Nat.reduceDiv, Int.reduceNeg, Int.reduceLT, Int.reduceLE, Int.reduceEq, Int.reduceNe, Int.reduceAdd, Int.reduceSub, Int.reduceMul, Int.reduceToNat, Int.reduceBEq, Int.reduceBNe, fillP, fillE, okE, okW, bound, elS, srcS, Fin, finish, ress, resOf, one, keeps, ↓reduceIte, Dl.ap, Dl.slots, okD, isLp, zeros, reduceCtorEq, zdj, zdk, tf_ledger_Read, hlen, C1, C2, C3, C4, C5]
  exact g3
end Go.T
