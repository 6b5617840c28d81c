/- What the document's reader of a ledger answers: the same. -/
import Derived.Test.YtmmmogcbmfmabaaOldc2
set_option linter.unusedVariables false
set_option linter.unusedSimpArgs false
set_option maxRecDepth 10000
set_option maxHeartbeats 1000000
namespace Go.T
attribute [local irreducible] Run Back RS Ap
variable {H0 H : Heap} {i : Nat} {s : RSt}
theorem rN_bad (m : Int) {s : RSt} (h : s.2 ≠ 0) : rN m s = (0, s) := by unfold rN; rw [if_neg h]
theorem rT_bad (m : Int) {s : RSt} (h : s.2 ≠ 0) : (rT m s).2 = s := by
  unfold rT; rw [rN_bad m h, if_pos h]
theorem rdHd_bad {s : RSt} (h : s.2 ≠ 0) : (rdHd s).2 = s := by
  unfold rdHd
  simp only [rN_bad _ h, rT_bad _ h]
theorem rdHs_bad (m : Nat) : ∀ (hs : List Hd) {s : RSt}, s.2 ≠ 0 → (rdHs m hs s).2 = s := by
  induction m with
  | zero => intro hs s _; rfl
  | succ m ih =>
    intro hs s h
    show (rdHs m _ (rdHd s).2).2 = s
    rw [rdHd_bad h]; exact ih _ h
theorem rdEnd_bad {l l' : Lg} {s : RSt} (h : s.2 ≠ 0) : rdEnd l s = rdEnd l' s := by
  have e : ∀ l, rdSt l s = s := by intro l; unfold rdSt; split <;> first | rfl | exact if_neg h
  unfold rdEnd; rw [e, e, if_pos h, if_pos h]
theorem RR.exit (l : Lg) (hl : l.ok) (h : RR H0 i s H) (V : TV) (hV : RdL V l.hs) (n k : Int) (hx : ¬ k < n ∨ (k < n ∧ s.2 ≠ 0)) : ∃ H' V', RR H0 i (rdEnd l s).2 H' ∧ RdL V' (rdEnd l s).1.hs ∧
    Run ⟨CT, true, [TRes.cell 2 true 5], ⟨(rdEnd l s).1.tvw V', H', false⟩⟩ [Fr.blk 0, Fr.seq (((TC.reg [{ d := some 55, op := .mv false (.s 0), g := none }, { d := some 56, op := .call 0 n_ref02_Reader_Err [(false, .s 55)], g := none }, { d := some 57, op := .ar BinOp.eql (.s 56) (.c (.int IntKind.i64 0)), g := none }, { d := some 58, op := .mv false (.s 57), g := none }, { d := some 59, op := .ldl false true 5 3 (.s 3), g := some (58, true) }, { d := some 60, op := .call 0 n_ref19_Check [(false, .s 59)], g := some (58, true) }, { d := some 61, op := .not (.s 60), g := some (58, true) }, { d := some 62, op := .pick (.s 58) (.s 61) (.c (.bool false)), g := none }] [4, 5, 28, 55, 56, 57, 58, 59, 60, 61]).seq (TC.cond (.s 62) (TC.reg [{ d := some 63, op := .mv false (.s 0), g := none }, { d := some 64, op := .call 0 n_ref02_Reader_Fail [(false, .s 63), (false, .c (.int IntKind.i64 3))], g := none }] [62, 63, 64]) TC.skip)).seq jn_ref19_Read_2)] (.loop lp_ref19_Read_1) ⟨(.ptr i 0 :: TV.tup [] :: .lbox [.int .i64 0, .int .i64 0, .int .i64 0, .int .i64 0, .nils] :: .lbox [.int .i64 l.q, .int .i64 l.u, .int .i64 l.he, .int .i64 l.nx, V] :: .int .i64 n :: .int .i64 k :: TV.junk :: TV.junk :: TV.junk :: TV.junk :: TV.junk :: TV.junk :: TV.junk :: TV.junk :: TV.junk :: TV.junk :: TV.junk :: TV.junk :: TV.junk :: TV.junk :: TV.junk :: TV.junk :: TV.junk :: TV.junk :: TV.junk :: TV.junk :: TV.junk :: TV.junk :: TV.junk :: TV.junk :: TV.junk :: TV.junk :: TV.junk :: TV.junk :: TV.junk :: TV.junk :: TV.junk :: TV.junk :: TV.junk :: TV.junk :: TV.junk :: TV.junk :: TV.junk :: TV.junk :: TV.junk :: TV.junk :: TV.junk :: TV.junk :: TV.junk :: TV.junk :: TV.junk :: TV.junk :: TV.junk :: TV.junk :: TV.junk :: TV.tup [] :: TV.tup [] :: TV.tup [] :: TV.tup [] :: TV.tup [] :: TV.tup [] :: TV.tup [] :: TV.tup [] :: TV.tup [] :: TV.tup [] :: TV.tup [] :: TV.tup [] :: TV.tup [] :: TV.tup [] :: TV.tup [] :: []), H, H0.length, false⟩ := by
  have v0 := hV.s
  have v1 := hV.c
  have hC := ref19_Check (H := H) l hl
  rw [Lg.tv_eq] at hC
  have hE := h.err
  by_cases h0 : s.2 = 0
  rotate_left
  · have es : rdSt l s = s := by unfold rdSt; split <;> first | rfl | exact if_neg h0
    have er : rdEnd l s = (zLg, s) := by unfold rdEnd; rw [es, if_pos h0]
    rw [er]
    have hb : (s.2 == 0) = false := by simp [h0]
    have hb2 : (s.2 != 0) = true := by simp [h0]
    refine ⟨H, .nils, h, ⟨rfl, rfl⟩, ?_⟩
    have ht := trim_eq (fz := true) (v := zLg.tvw .nils) (h := H) (k := false) h.length
    unfold Lg.tvw zLg at ht ⊢
    rw [Run_loop]
    rcases hx with hx | ⟨hx, _⟩
    · simp (maxSteps := 4000000) only [↓set16, ↓sl16, zaa, zab, zac, zad, zz0, zz1, zz2, zz3, zz4, zae, zaf, zag, zah, zai, zaj, zak, zal, zam, zan, zao, zap, zaq, zar, zas, zat, zau, zav, zaw, zax, zay, zaz, zba, zbb, zbc, zbd, zbe, zbf, zbg, zbh, zbi, zbj, zbk, zbl, zbm, zbn, zbo, zbp, zbq, zbr, zbs, zbt, zbu, zbv, zbw, zbx, zby, zbz, zca, zcb, zcc, zcd, zce, zcf, zcg, zch, zci, zcj, zck, zcl, zcm, zcn, ne_eq, zco, zcp, zcq, zcr, zcs, List.replicate, zct, zcu, zcv, zcw, zcx, zcy, zcz, zda, zdb, zdc, zdd, zde, zdf, zdg, zdh, zdi, killT, delta, tak, ev, ad, taks, evs, nL, getH, pack, arith, callD, Nat.reduceAdd, Nat.reduceSub, Nat.reduceMul, Nat.reduceLeDiff, Nat.reduceEqDiff, Nat.reduceBEq, Nat.reduceBNe, Nat.reduceLT, Nat.reduceDiv, Int.reduceNeg, Int.reduceLT, Int.reduceLE, Int.reduceEq, Int.reduceNe, Int.reduceAdd, Int.reduceSub, Int.reduceMul, Int.reduceToNat, Int.reduceBEq, Int.reduceBNe, fillP, fillE, okE, okW, bound, elS, srcS, Fin, finish, ress, resOf, one, keeps, ↓reduceIte, Dl.ap, Dl.slots, okD, isLp, zeros, reduceCtorEq, zdj, zdk, lp_ref19_Read_1, jn_ref19_Read_2, hx, v0, v1, hE, hb, hb2, ht]
    · simp (maxSteps := 4000000) only [↓set16, ↓sl16, zaa, zab, zac, zad, zz0, zz1, zz2, zz3, zz4, zae, zaf, zag, zah, zai, zaj, zak, zal, zam, zan, zao, zap, zaq, zar, zas, zat, zau, zav, zaw, zax, zay, zaz, zba, zbb, zbc, zbd, zbe, zbf, zbg, zbh, zbi, zbj, zbk, zbl, zbm, zbn, zbo, zbp, zbq, zbr, zbs, zbt, zbu, zbv, zbw, zbx, zby, zbz, zca, zcb, zcc, zcd, zce, zcf, zcg, zch, zci, zcj, zck, zcl, zcm, zcn, ne_eq, zco, zcp, zcq, zcr, zcs, List.replicate, zct, zcu, zcv, zcw, zcx, zcy, zcz, zda, zdb, zdc, zdd, zde, zdf, zdg, zdh, zdi, killT, delta, tak, ev, ad, taks, evs, nL, getH, pack, arith, callD, Nat.reduceAdd, Nat.reduceSub, Nat.reduceMul, Nat.reduceLeDiff, Nat.reduceEqDiff, Nat.reduceBEq, Nat.reduceBNe, Nat.reduceLT, Nat.reduceDiv, Int.reduceNeg, Int.reduceLT, Int.reduceLE, Int.reduceEq, Int.reduceNe, Int.reduceAdd, Int.reduceSub, Int.reduceMul, Int.reduceToNat, Int.reduceBEq, Int.reduceBNe, fillP, fillE, okE, okW, bound, elS, srcS, Fin, finish, ress, resOf, one, keeps, ↓reduceIte, Dl.ap, Dl.slots, okD, isLp, zeros, reduceCtorEq, zdj, zdk, lp_ref19_Read_1, jn_ref19_Read_2, hx, v0, v1, hE, hb, hb2, ht]
  have hx' : ¬ k < n := by
    rcases hx with hx | ⟨_, hx⟩
    · exact hx
    · exact absurd h0 hx
  have hb : (s.2 == 0) = true := by simp [h0]
  have hb2 : (s.2 != 0) = false := by simp [h0]
  by_cases hc : checkB l = true
  · have es : rdSt l s = s := if_pos hc
    rw [hc] at hC
    have er : rdEnd l s = (l, s) := by unfold rdEnd; rw [es, if_neg (by simp [h0])]
    rw [er]
    refine ⟨H, V, h, ⟨v0, v1⟩, ?_⟩
    have ht := trim_eq (fz := true) (v := l.tvw V) (h := H) (k := false) h.length
    unfold Lg.tvw at ht ⊢
    rw [Run_loop]
    simp (maxSteps := 4000000) only [↓set16, ↓sl16, zaa, zab, zac, zad, zz0, zz1, zz2, zz3, zz4, zae, zaf, zag, zah, zai, zaj, zak, zal, zam, zan, zao, zap, zaq, zar, zas, zat, zau, zav, zaw, zax, zay, zaz, zba, zbb, zbc, zbd, zbe, zbf, zbg, zbh, zbi, zbj, zbk, zbl, zbm, zbn, zbo, zbp, zbq, zbr, zbs, zbt, zbu, zbv, zbw, zbx, zby, zbz, zca, zcb, zcc, zcd, zce, zcf, zcg, zch, zci, zcj, zck, zcl, zcm, zcn, ne_eq, zco, zcp, zcq, zcr, zcs, List.replicate, zct, zcu, zcv, zcw, zcx, zcy, zcz, zda, zdb, zdc, zdd, zde, zdf, zdg, zdh, zdi, killT, delta, tak, ev, ad, taks, evs, nL, getH, pack, arith, callD, Nat.reduceAdd, Nat.reduceSub, Nat.reduceMul, Nat.reduceLeDiff, Nat.reduceEqDiff, Nat.reduceBEq, Nat.reduceBNe, Nat.reduceLT, Nat.reduceDiv, Int.reduceNeg, Int.reduceLT, Int.reduceLE, Int.reduceEq, Int.reduceNe, Int.reduceAdd, Int.reduceSub, Int.reduceMul, Int.reduceToNat, Int.reduceBEq, Int.reduceBNe, fillP, fillE, okE, okW, bound, elS, srcS, Fin, finish, ress, resOf, one, keeps, ↓reduceIte, Dl.ap, Dl.slots, okD, isLp, zeros, reduceCtorEq, zdj, zdk, lp_ref19_Read_1, jn_ref19_Read_2, hx', v0, v1, hC, hE, hb, hb2, ht]
  · have es : rdSt l s = ([], 3) := by unfold rdSt; rw [if_neg hc, if_pos h0]
    have hc' : checkB l = false := by simpa using hc
    rw [hc'] at hC
    obtain ⟨H', p', hF⟩ := h.fail 3 (by decide)
    rw [if_pos h0] at p'
    have hE' := p'.err
    have er : rdEnd l s = (zLg, ([], 3)) := by unfold rdEnd; rw [es, if_pos (by decide)]
    rw [er]
    refine ⟨H', .nils, p', ⟨rfl, rfl⟩, ?_⟩
    have ht := trim_eq (fz := true) (v := zLg.tvw .nils) (h := H') (k := false) p'.length
    unfold Lg.tvw zLg at ht ⊢
    rw [Run_loop]
    simp (maxSteps := 4000000) only [↓set16, ↓sl16, zaa, zab, zac, zad, zz0, zz1, zz2, zz3, zz4, zae, zaf, zag, zah, zai, zaj, zak, zal, zam, zan, zao, zap, zaq, zar, zas, zat, zau, zav, zaw, zax, zay, zaz, zba, zbb, zbc, zbd, zbe, zbf, zbg, zbh, zbi, zbj, zbk, zbl, zbm, zbn, zbo, zbp, zbq, zbr, zbs, zbt, zbu, zbv, zbw, zbx, zby, zbz, zca, zcb, zcc, zcd, zce, zcf, zcg, zch, zci, zcj, zck, zcl, zcm, zcn, ne_eq, zco, zcp, zcq, zcr, zcs, List.replicate, zct, zcu, zcv, zcw, zcx, zcy, zcz, zda, zdb, zdc, zdd, zde, zdf, zdg, zdh, zdi, killT, delta, tak, ev, ad, taks, evs, nL, getH, pack, arith, callD, Nat.reduceAdd, Nat.reduceSub, Nat.reduceMul, Nat.reduceLeDiff, Nat.reduceEqDiff, Nat.reduceBEq, Nat.reduceBNe, Nat.reduceLT, Nat.reduceDiv, Int.reduceNeg, Int.reduceLT, Int.reduceLE, Int.reduceEq, Int.reduceNe, Int.reduceAdd, Int.reduceSub, Int.reduceMul, Int.reduceToNat, Int.reduceBEq, Int.reduceBNe, fillP, fillE, okE, okW, bound, elS, srcS, Fin, finish, ress, resOf, one, keeps, ↓reduceIte, Dl.ap, Dl.slots, okD, isLp, zeros, reduceCtorEq, zdj, zdk, lp_ref19_Read_1, jn_ref19_Read_2, hx', v0, v1, hC, hE, hb, hF, hE', show ((3 : Int) != 0) = true from rfl, ht]
theorem RR.loop (m : Nat) : ∀ (l : Lg) (hl : l.ok) (s : RSt) (H : Heap) (V : TV) (k n : Nat), RR H0 i s H → l.hs.length + m ≤ 1000 → V = ownV l.hs → k + m = n → n ≤ 1000 → ∃ H' V', RR H0 i (rdEnd { l with hs := (rdHs m l.hs s).1 } (rdHs m l.hs s).2).2 H' ∧ RdL V' (rdEnd { l with hs := (rdHs m l.hs s).1 } (rdHs m l.hs s).2).1.hs ∧
    Run ⟨CT, true, [TRes.cell 2 true 5], ⟨(rdEnd { l with hs := (rdHs m l.hs s).1 } (rdHs m l.hs s).2).1.tvw V', H', false⟩⟩ [Fr.blk 0, Fr.seq (((TC.reg [{ d := some 55, op := .mv false (.s 0), g := none }, { d := some 56, op := .call 0 n_ref02_Reader_Err [(false, .s 55)], g := none }, { d := some 57, op := .ar BinOp.eql (.s 56) (.c (.int IntKind.i64 0)), g := none }, { d := some 58, op := .mv false (.s 57), g := none }, { d := some 59, op := .ldl false true 5 3 (.s 3), g := some (58, true) }, { d := some 60, op := .call 0 n_ref19_Check [(false, .s 59)], g := some (58, true) }, { d := some 61, op := .not (.s 60), g := some (58, true) }, { d := some 62, op := .pick (.s 58) (.s 61) (.c (.bool false)), g := none }] [4, 5, 28, 55, 56, 57, 58, 59, 60, 61]).seq (TC.cond (.s 62) (TC.reg [{ d := some 63, op := .mv false (.s 0), g := none }, { d := some 64, op := .call 0 n_ref02_Reader_Fail [(false, .s 63), (false, .c (.int IntKind.i64 3))], g := none }] [62, 63, 64]) TC.skip)).seq jn_ref19_Read_2)] (.loop lp_ref19_Read_1) ⟨(.ptr i 0 :: TV.tup [] :: .lbox [.int .i64 0, .int .i64 0, .int .i64 0, .int .i64 0, .nils] :: .lbox [.int .i64 l.q, .int .i64 l.u, .int .i64 l.he, .int .i64 l.nx, V] :: .int .i64 n :: .int .i64 k :: TV.junk :: TV.junk :: TV.junk :: TV.junk :: TV.junk :: TV.junk :: TV.junk :: TV.junk :: TV.junk :: TV.junk :: TV.junk :: TV.junk :: TV.junk :: TV.junk :: TV.junk :: TV.junk :: TV.junk :: TV.junk :: TV.junk :: TV.junk :: TV.junk :: TV.junk :: TV.junk :: TV.junk :: TV.junk :: TV.junk :: TV.junk :: TV.junk :: TV.junk :: TV.junk :: TV.junk :: TV.junk :: TV.junk :: TV.junk :: TV.junk :: TV.junk :: TV.junk :: TV.junk :: TV.junk :: TV.junk :: TV.junk :: TV.junk :: TV.junk :: TV.junk :: TV.junk :: TV.junk :: TV.junk :: TV.junk :: TV.junk :: TV.tup [] :: TV.tup [] :: TV.tup [] :: TV.tup [] :: TV.tup [] :: TV.tup [] :: TV.tup [] :: TV.tup [] :: TV.tup [] :: TV.tup [] :: TV.tup [] :: TV.tup [] :: TV.tup [] :: TV.tup [] :: TV.tup [] :: []), H, H0.length, false⟩ := by
  induction m with
  | zero =>
    intro l hl s H V k n h hm hV hk hn
    exact RR.exit l hl h V (hV ▸ .own _) n k (.inl (by omega))
  | succ m ih =>
    intro l hl s H V k n h hm hV hk hn
    have hlt : (k : Int) < n := by omega
    by_cases h0 : s.2 = 0
    rotate_left
    · have e1 : (rdHs (m + 1) l.hs s).2 = s := rdHs_bad (m + 1) l.hs h0
      rw [e1, rdEnd_bad (l := { l with hs := (rdHs (m + 1) l.hs s).1 }) (l' := l) h0]
      exact RR.exit l hl h V (hV ▸ .own _) n k (.inr ⟨hlt, h0⟩)
    have hb : (s.2 == 0) = true := by simp [h0]
    have hE := h.err
    have ho := rdHd_ok s
    have hw : IntKind.i64.wrap ((k : Int) + 1) = ((k + 1 : Nat) : Int) := IntWalk.i64_in _ (by omega)
    obtain ⟨H1, p1, C1⟩ := h.num 2147483648 (by decide)
    obtain ⟨H2, p2, C2⟩ := p1.num 7 (by decide)
    obtain ⟨H3, p3, C3⟩ := p2.num 1099511627776 (by decide)
    obtain ⟨H4, p4, C4⟩ := p3.num 1099511627776 (by decide)
    obtain ⟨H5, p5, C5⟩ := p4.num 1099511627776 (by decide)
    obtain ⟨H6, p6, C6⟩ := p5.text 16 (by decide)
    have e : rdHs (m + 1) l.hs s = rdHs m (l.hs ++ [(rdHd s).1]) (rdHd s).2 := rfl
    rw [e]
    unfold rdHd at ho ⊢
    simp only at ho ⊢
    generalize rT 16 (rN 1099511627776 (rN 1099511627776 (rN 1099511627776 (rN 7 (rN 2147483648 s).2).2).2).2).2 = t6 at *
    generalize rN 1099511627776 (rN 1099511627776 (rN 1099511627776 (rN 7 (rN 2147483648 s).2).2).2).2 = t5 at *
    generalize rN 1099511627776 (rN 1099511627776 (rN 7 (rN 2147483648 s).2).2).2 = t4 at *
    generalize rN 1099511627776 (rN 7 (rN 2147483648 s).2).2 = t3 at *
    generalize rN 7 (rN 2147483648 s).2 = t2 at *
    generalize rN 2147483648 s = t1 at *
    obtain ⟨H', V', g1, g2, g3⟩ := ih { l with hs := l.hs ++ [⟨t1.1, t2.1, t3.1, t4.1, t5.1, t6.1⟩] } ⟨hl.q, hl.u, hl.he, hl.nx, by
      intro y hy; simp only [List.mem_append, List.mem_cons, List.not_mem_nil, or_false] at hy; rcases hy with hy | rfl
      · exact hl.hs y hy
      · exact ho, by simp only [List.length_append, List.length_cons, List.length_nil]; omega⟩ t6.2 H6 _ (k + 1) n p6 (by simp only [List.length_append, List.length_cons, List.length_nil]; omega) rfl (by omega) hn
    refine ⟨H', V', g1, g2, ?_⟩
    simp only at g3
    have hV1 : ownV (l.hs ++ [⟨t1.1, t2.1, t3.1, t4.1, t5.1, t6.1⟩]) = .sl (.own 6 false) (l.hs.map Hd.tv ++ [.agg [.int .i64 t1.1, .int .i64 t2.1, .int .i64 t3.1, .int .i64 t4.1, .int .i64 t5.1, .str t6.1]]) := by
      unfold ownV; rw [if_neg (by simp), List.map_append]; rfl
    rw [hV1] at g3
    have r0 : (1 : Nat) * 56 ≤ roomB := by unfold roomB; omega
    have r1 : (1 : Nat) ≤ roomB := by unfold roomB; omega
    have r2 : (l.hs.length + 1) * 56 ≤ roomB := by unfold roomB; omega
    have r3 : l.hs.length + 1 ≤ roomB := by unfold roomB; omega
    have okw := okW_tv' l.hs
    rw [Run_loop]
    rcases ownV_cases l.hs with ⟨e1, e2⟩ | e2
    · rw [e2] at hV
      rw [e1, List.map_nil, List.nil_append] at g3
      simp (maxSteps := 4000000) only [↓set16, ↓sl16, zaa, zab, zac, zad, zz0, zz1, zz2, zz3, zz4, zae, zaf, zag, zah, zai, zaj, zak, zal, zam, zan, zao, zap, zaq, zar, zas, zat, zau, zav, zaw, zax, zay, zaz, zba, zbb, zbc, zbd, zbe, zbf, zbg, zbh, zbi, zbj, zbk, zbl, zbm, zbn, zbo, zbp, zbq, zbr, zbs, zbt, zbu, zbv, zbw, zbx, zby, zbz, zca, zcb, zcc, zcd, zce, zcf, zcg, zch, zci, zcj, zck, zcl, zcm, zcn, ne_eq, zco, zcp, zcq, zcr, zcs, List.replicate, zct, zcu, zcv, zcw, zcx, zcy, zcz, zda, zdb, zdc, zdd, zde, zdf, zdg, zdh, zdi, killT, delta, tak, ev, ad, taks, evs, nL, getH, pack, arith, callD, Nat.reduceAdd, Nat.reduceSub, Nat.reduceMul, Nat.reduceLeDiff, Nat.reduceEqDiff, Nat.reduceBEq, Nat.reduceBNe, Nat.reduceLT, Nat.reduceDiv, Int.reduceNeg, Int.reduceLT, Int.reduceLE, Int.reduceEq, Int.reduceNe, Int.reduceAdd, Int.reduceSub, Int.reduceMul, Int.reduceToNat, Int.reduceBEq, Int.reduceBNe, fillP, fillE, okE, okW, bound, elS, srcS, Fin, finish, ress, resOf, one, keeps, ↓reduceIte, Dl.ap, Dl.slots, okD, isLp, zeros, reduceCtorEq, zdj, zdk, lp_ref19_Read_1, hlt, hE, hb, hV, C1, C2, C3, C4, C5, C6, r0, r1, hw]
      rw [e1]
      exact g3
    · rw [e2] at hV
      simp (maxSteps := 4000000) only [↓set16, ↓sl16, zaa, zab, zac, zad, zz0, zz1, zz2, zz3, zz4, zae, zaf, zag, zah, zai, zaj, zak, zal, zam, zan, zao, zap, zaq, zar, zas, zat, zau, zav, zaw, zax, zay, zaz, zba, zbb, zbc, zbd, zbe, zbf, zbg, zbh, zbi, zbj, zbk, zbl, zbm, zbn, zbo, zbp, zbq, zbr, zbs, zbt, zbu, zbv, zbw, zbx, zby, zbz, zca, zcb, zcc, zcd, zce, zcf, zcg, zch, zci, zcj, zck, zcl, zcm, zcn, ne_eq, zco, zcp, zcq, zcr, zcs, List.replicate, zct, zcu, zcv, zcw, zcx, zcy, zcz, zda, zdb, zdc, zdd, zde, zdf, zdg, zdh, zdi, killT, delta, tak, ev, ad, taks, evs, nL, getH, pack, arith, callD, Nat.reduceAdd, Nat.reduceSub, Nat.reduceMul, Nat.reduceLeDiff, Nat.reduceEqDiff, Nat.reduceBEq, Nat.reduceBNe, Nat.reduceLT, Nat.reduceDiv, Int.reduceNeg, Int.reduceLT, Int.reduceLE, Int.reduceEq, Int.reduceNe, Int.reduceAdd, Int.reduceSub, Int.reduceMul, Int.reduceToNat, Int.reduceBEq, Int.reduceBNe, fillP, fillE, okE, okW, bound, elS, srcS, Fin, finish, ress, resOf, one, keeps, ↓reduceIte, Dl.ap, Dl.slots, okD, isLp, zeros, reduceCtorEq, zdj, zdk, lp_ref19_Read_1, hlt, hE, hb, hV, C1, C2, C3, C4, C5, C6, r2, r3, okw, List.length_map, hw]
      exact g3
theorem RR.read (h : RR H0 i s H) : ∃ H' V, RR H0 i (rdLg s).2 H' ∧ RdL V (rdLg s).1.hs ∧ CT n_ref19_Read [.ptr i 0] H = some ⟨(rdLg s).1.tvw V, H', false⟩ := by
  obtain ⟨H1, p1, C1⟩ := h.num 1099511627776 (by decide)
  obtain ⟨H2, p2, C2⟩ := p1.num 1099511627776 (by decide)
  obtain ⟨H3, p3, C3⟩ := p2.num 1099511627776 (by decide)
  obtain ⟨H4, p4, C4⟩ := p3.num 2147483648 (by decide)
  obtain ⟨H5, p5, C5⟩ := p4.num 8 (by decide)
  have hlen := h.length
  have n5 := rN_nn 8 (rN 2147483648 (rN 1099511627776 (rN 1099511627776 (rN 1099511627776 s).2).2).2).2
  have m5 := rN_le 8 (by decide) (rN 2147483648 (rN 1099511627776 (rN 1099511627776 (rN 1099511627776 s).2).2).2).2
  have i1 := rN_I64 1099511627776 (by decide) s
  have i2 := rN_I64 1099511627776 (by decide) (rN 1099511627776 s).2
  have i3 := rN_I64 1099511627776 (by decide) (rN 1099511627776 (rN 1099511627776 s).2).2
  have i4 := rN_I64 2147483648 (by decide) (rN 1099511627776 (rN 1099511627776 (rN 1099511627776 s).2).2).2
  unfold rdLg
  simp only
  generalize rN 8 (rN 2147483648 (rN 1099511627776 (rN 1099511627776 (rN 1099511627776 s).2).2).2).2 = t5 at *
  generalize rN 2147483648 (rN 1099511627776 (rN 1099511627776 (rN 1099511627776 s).2).2).2 = t4 at *
  generalize rN 1099511627776 (rN 1099511627776 (rN 1099511627776 s).2).2 = t3 at *
  generalize rN 1099511627776 (rN 1099511627776 s).2 = t2 at *
  generalize rN 1099511627776 s = t1 at *
  obtain ⟨m, hm⟩ := Int.eq_ofNat_of_zero_le n5
  obtain ⟨H', V, g1, g2, g3⟩ := RR.loop m ⟨t1.1, t2.1, t3.1, t4.1, []⟩ ⟨i1, i2, i3, i4, (fun x hx => by cases hx), by simp⟩ t5.2 H5 .nils 0 m p5 (by simp; omega) rfl (by omega) (by omega)
  have e : t5.1.toNat = m := by omega
  rw [e]
  refine ⟨H', V, g1, g2, ?_⟩
  rw [hm] at C5
  refine callT_of rfl tab_ref19_Read ?_
  simp (maxSteps := 4000000) only [↓set16, ↓sl16, zaa, zab, zac, zad, zz0, zz1, zz2, zz3, zz4, zae, zaf, zag, zah, zai, zaj, zak, zal, zam, zan, zao, zap, zaq, zar, zas, zat, zau, zav, zaw, zax, zay, zaz, zba, zbb, zbc, zbd, zbe, zbf, zbg, zbh, zbi, zbj, zbk, zbl, zbm, zbn, zbo, zbp, zbq, zbr, zbs, zbt, zbu, zbv, zbw, zbx, zby, zbz, zca, zcb, zcc, zcd, zce, zcf, zcg, zch, zci, zcj, zck, zcl, zcm, zcn, ne_eq, zco, zcp, zcq, zcr, zcs, List.replicate, zct, zcu, zcv, zcw, zcx, zcy, zcz, zda, zdb, zdc, zdd, zde, zdf, zdg, zdh, zdi, killT, delta, tak, ev, ad, taks, evs, nL, getH, pack, arith, callD, Nat.reduceAdd, Nat.reduceSub, Nat.reduceMul, Nat.reduceLeDiff, Nat.reduceEqDiff, Nat.reduceBEq, Nat.reduceBNe, Nat.reduceLT, Nat.reduceDiv, Int.reduceNeg, Int.reduceLT, Int.reduceLE, Int.reduceEq, Int.reduceNe, Int.reduceAdd, Int.reduceSub, Int.reduceMul, Int.reduceToNat, Int.reduceBEq, Int.reduceBNe, fillP, fillE, okE, okW, bound, elS, srcS, Fin, finish, ress, resOf, one, keeps, ↓reduceIte, Dl.ap, Dl.slots, okD, isLp, zeros, reduceCtorEq, zdj, zdk, tf_ref19_Read, hlen, C1, C2, C3, C4, C5]
  exact g3
end Go.T
