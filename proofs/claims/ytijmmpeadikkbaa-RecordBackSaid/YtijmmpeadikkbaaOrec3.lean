/- What the record's functions answer: entries read. -/
import Derived.Test.YtijmmpeadikkbaaOrec2
set_option linter.unusedVariables false
set_option linter.unusedSimpArgs false
set_option maxRecDepth 10000
set_option pp.deepTerms true
set_option pp.maxSteps 1000000
set_option maxHeartbeats 1000000
namespace Go.T
attribute [local irreducible] Run Back RS Ap
variable {K0 K H0 H : Heap} {i : Nat} {s : RSt}
theorem trim_eq {fz : Bool} {v : TV} {h : Heap} {k : Bool} {b : Nat} (hb : h.length = b) : trim fz b ⟨v, h, k⟩ = ⟨v, h, k⟩ := by
  rw [← hb]; exact trim_refl
theorem PR.join (h : PR K0 i s K) (E : List TV) : PR (K0 ++ [E]) i s (K ++ [E]) := by
  obtain ⟨⟨c, rfl, hc⟩, h1, h2, h3, h4⟩ := h
  exact ⟨⟨c, (List.set_append_left _ _ h1).symm, hc⟩, by simp; omega, h2, h3, h4⟩
theorem PR.split {E : List TV} {H' : Heap} (h : PR (K0 ++ [E]) i s H') (hi : i < K0.length) : ∃ K1, H' = K1 ++ [E] ∧ PR K0 i s K1 := by
  obtain ⟨⟨c, rfl, hc⟩, h1, h2, h3, h4⟩ := h
  exact ⟨_, List.set_append_left _ _ hi, ⟨⟨c, rfl, hc⟩, hi, h2, h3, h4⟩⟩
theorem PR.numE (h : PR K0 i s K) (E : List TV) (m : Int) (hm : 0 ≤ m) : ∃ K1, PR K0 i (rN m s).2 K1 ∧ CT n_pack_Reader_Num [.ptr i 0, .int .i64 m] (K ++ [E]) = some ⟨.int .i64 (rN m s).1, K1 ++ [E], false⟩ := by
  obtain ⟨H', p, hC⟩ := (h.join E).num m hm
  obtain ⟨K1, rfl, q⟩ := p.split h.lt
  exact ⟨K1, q, hC⟩
theorem PR.textE (h : PR K0 i s K) (E : List TV) (m : Int) (hm : 0 ≤ m) : ∃ K1, PR K0 i (rT m s).2 K1 ∧ CT n_pack_Reader_Text [.ptr i 0, .int .i64 m] (K ++ [E]) = some ⟨.str (rT m s).1, K1 ++ [E], false⟩ := by
  obtain ⟨H', p, hC⟩ := (h.join E).text m hm
  obtain ⟨K1, rfl, q⟩ := p.split h.lt
  exact ⟨K1, q, hC⟩
theorem PR.failE (h : PR K0 i s K) (E : List TV) (x : Int) (hx : x ≠ 0) : ∃ K1, PR K0 i (if s.2 = 0 then ([], x) else s) K1 ∧ CT n_pack_Reader_Fail [.ptr i 0, .int .i64 x] (K ++ [E]) = some ⟨.tup [], K1 ++ [E], false⟩ := by
  obtain ⟨H', p, hC⟩ := (h.join E).fail x hx
  obtain ⟨K1, rfl, q⟩ := p.split h.lt
  exact ⟨K1, q, hC⟩
theorem PR.errE (h : PR K0 i s K) (E : List TV) : CT n_pack_Reader_Err [.ptr i 0] (K ++ [E]) = some ⟨.int .i64 s.2, K ++ [E], false⟩ := (h.join E).err
theorem rT_size (m : Int) (hm : 0 ≤ m) (s : RSt) : ((rT m s).1.size : Int) ≤ m := by
  have h1 := rN_le m hm s
  have h2 := rN_nn m s
  unfold rT
  split
  · exact hm
  · split
    · exact hm
    · rw [strOf_size, List.length_take]; omega
theorem live_end {K : Heap} {E : List TV} {n : Nat} (hn : K.length = n) (hE : dead E = false) : Go.T.live (K ++ [E]) n = some E := by
  rw [← hn]; exact live_app_eq hE
theorem set_endn {K : Heap} {E E' : List TV} {n : Nat} (hn : K.length = n) : (K ++ [E]).set n E' = K ++ [E'] := by
  rw [← hn]; exact set_end
theorem record_take (h : PR K0 i s K) (x0 x1 x2 : Int) (v : TV) : ∃ K1, PR K0 i (rN 2 (rN 2147483648 (rN 2147483648 s).2).2).2 K1 ∧ CT n_record_take [.ptr i 0, .sl .shr [.agg [.ptr K0.length 0, .int .i64 1, .int .i64 2147483648], .agg [.ptr K0.length 1, .int .i64 0, .int .i64 2147483648], .agg [.ptr K0.length 2, .int .i64 0, .int .i64 2]]] (K ++ [[.int .i64 x0, .int .i64 x1, .int .i64 x2, v]]) = some ⟨.tup [], K1 ++ [[.int .i64 (rN 2147483648 s).1, .int .i64 (rN 2147483648 (rN 2147483648 s).2).1, .int .i64 (rN 2 (rN 2147483648 (rN 2147483648 s).2).2).1, v]], false⟩ := by
  obtain ⟨K1, p1, C1⟩ := h.numE [.int .i64 x0, .int .i64 x1, .int .i64 x2, v] 2147483648 (by decide)
  generalize rN 2147483648 s = t1 at *
  obtain ⟨K2, p2, C2⟩ := p1.numE [.int .i64 t1.1, .int .i64 x1, .int .i64 x2, v] 2147483648 (by decide)
  generalize rN 2147483648 t1.2 = t2 at *
  obtain ⟨K3, p3, C3⟩ := p2.numE [.int .i64 t1.1, .int .i64 t2.1, .int .i64 x2, v] 2 (by decide)
  generalize rN 2 t2.2 = t3 at *
  refine ⟨K3, p3, ?_⟩
  have hK := h.length
  have l1 : ∀ E, dead E = false → Go.T.live (K1 ++ [E]) K0.length = some E := fun E hE => live_end p1.length hE
  have l2 : ∀ E, dead E = false → Go.T.live (K2 ++ [E]) K0.length = some E := fun E hE => live_end p2.length hE
  have l3 : ∀ E, dead E = false → Go.T.live (K3 ++ [E]) K0.length = some E := fun E hE => live_end p3.length hE
  have s1 : ∀ E E', (K1 ++ [E]).set K0.length E' = K1 ++ [E'] := fun E E' => set_endn p1.length
  have s2 : ∀ E E', (K2 ++ [E]).set K0.length E' = K2 ++ [E'] := fun E E' => set_endn p2.length
  have s3 : ∀ E E', (K3 ++ [E]).set K0.length E' = K3 ++ [E'] := fun E E' => set_endn p3.length
  have dd : ∀ (a b : TV) (l : List TV), dead (a :: b :: l) = false := fun a b l => dead_two
  have ht := trim_eq (fz := true) (v := .tup []) (h := K3 ++ [[.int .i64 t1.1, .int .i64 t2.1, .int .i64 t3.1, v]]) (k := false) (b := K0.length + 1) (by simp [p3.length])
  have i0 : ((3 : Nat) : Int) = 3 := rfl
  have i1 : IntKind.i64.wrap 1 = 1 := rfl
  have i2 : IntKind.i64.wrap 2 = 2 := rfl
  have i3 : IntKind.i64.wrap 3 = 3 := rfl
  refine callT_of rfl tab_record_take ?_
  simp (maxSteps := 4000000) only [↓set16, ↓sl16, zaa, zab, zac, zad, zz0, zz1, zz2, zz3, zz4, zae, zaf, zag, zah, zai, zaj, zak, zal, zam, zan, zao, zap, zaq, zar, zas, zat, zau, zav, zaw, zax, zay, zaz, zba, zbb, zbc, zbd, zbe, zbf, zbg, zbh, zbi, zbj, zbk, zbl, zbm, zbn, zbo, zbp, zbq, zbr, zbs, zbt, zbu, zbv, zbw, zbx, zby, zbz, zca, zcb, zcc, zcd, zce, zcf, zcg, zch, zci, zcj, zck, zcl, zcm, zcn, ne_eq, zco, zcp, zcq, zcr, zcs, List.replicate, zct, zcu, zcv, zcw, zcx, zcy, zcz, zda, zdb, zdc, zdd, zde, zdf, zdg, zdh, zdi, killT, delta, tak, ev, ad, taks, evs, nL, getH, pack, arith, callD, Nat.reduceAdd, Nat.reduceSub, Nat.reduceMul, Nat.reduceLeDiff, Nat.reduceEqDiff, Nat.reduceBEq, Nat.reduceBNe, Nat.reduceLT, Nat.reduceDiv, Int.reduceNeg, Int.reduceLT, Int.reduceLE, Int.reduceEq, Int.reduceNe, Int.reduceAdd, Int.reduceSub, Int.reduceMul, Int.reduceToNat, Int.reduceBEq, Int.reduceBNe, fillP, fillE, okE, okW, bound, elS, srcS, Fin, finish, ress, resOf, one, keeps, ↓reduceIte, Dl.ap, Dl.slots, okD, isLp, zeros, reduceCtorEq, zdj, zdk, tf_record_take, Run_loop, lp_record_take_1, i0, i1, i2, i3, hK, C1, C2, C3, l1, l2, l3, s1, s2, s3, dd, lts_i, ht]
def zEn : En := ⟨0, 0, 0, []⟩
def rdEnE (e : En) (s : RSt) : RSt := if entB e = true then s else if s.2 = 0 then ([], 3) else s
/-- An entry, read. -/
def rdEn (s : RSt) : En × RSt :=
  let a := rN 2147483648 s
  let b := rN 2147483648 a.2
  let c := rN 2 b.2
  let t := rT 4096 c.2
  let e : En := ⟨a.1, b.1, c.1, strB t.1⟩
  if (rdEnE e t.2).2 ≠ 0 then (zEn, rdEnE e t.2) else (e, rdEnE e t.2)
/-- A value that reads as these bytes. -/
structure RdB (V : TV) (l : List Int) : Prop where
  s : V.shr0 = .sl .shr (bl l)
  c : V.isCell = true
theorem PR.readE (h : PR H0 i s H) : ∃ H' V, PR H0 i (rdEn s).2 H' ∧ RdB V (rdEn s).1.dt ∧ CT n_record_ReadEntry [.ptr i 0] H = some ⟨(rdEn s).1.tvw V, H', false⟩ := by
  obtain ⟨K3, p3, hT⟩ := record_take h 0 0 0 .nils
  have hO := record_ofEntry (H := H ++ [[.int .i64 0, .int .i64 0, .int .i64 0, .nils]]) (j := H0.length) zEn
  have hL : zEn.nums.map (Nm.tv H0.length) = [.agg [.ptr H0.length 0, .int .i64 1, .int .i64 2147483648], .agg [.ptr H0.length 1, .int .i64 0, .int .i64 2147483648], .agg [.ptr H0.length 2, .int .i64 0, .int .i64 2]] := rfl
  rw [hL] at hO
  have hts := rT_size 4096 (by decide) (rN 2 (rN 2147483648 (rN 2147483648 s).2).2).2
  unfold rdEn
  simp only
  obtain ⟨K4, p4, hX⟩ := p3.textE [.int .i64 (rN 2147483648 s).1, .int .i64 (rN 2147483648 (rN 2147483648 s).2).1, .int .i64 (rN 2 (rN 2147483648 (rN 2147483648 s).2).2).1, .nils] 4096 (by decide)
  generalize rT 4096 (rN 2 (rN 2147483648 (rN 2147483648 s).2).2).2 = t4 at *
  generalize rN 2 (rN 2147483648 (rN 2147483648 s).2).2 = t3 at *
  generalize rN 2147483648 (rN 2147483648 s).2 = t2 at *
  generalize rN 2147483648 s = t1 at *
  have hlen := h.length
  have hrm : t4.1.size ≤ roomB := by unfold roomB; omega
  have l4 : ∀ E, dead E = false → Go.T.live (K4 ++ [E]) H0.length = some E := fun E hE => live_end p4.length hE
  have s4 : ∀ E E', (K4 ++ [E]).set H0.length E' = K4 ++ [E'] := fun E E' => set_endn p4.length
  have g4 : ∀ E, dead E = false → (K4 ++ [E]).getD H0.length [] = E := fun E hE => getD_live (l4 E hE)
  have dd : ∀ (a b : TV) (l : List TV), dead (a :: b :: l) = false := fun a b l => dead_two
  have hE := record_Entry (H := K4 ++ [[.int .i64 t1.1, .int .i64 t2.1, .int .i64 t3.1, .sl (.own 1 false) (bl (strB t4.1))]]) ⟨t1.1, t2.1, t3.1, strB t4.1⟩
  rw [En.tv_eq] at hE
  have ltl : ∀ n (g : Tag), TV.lts n [.sl g (bl (strB t4.1))] = true := fun n g => by simp [TV.lts, TV.lt, bl_lts]
  have tz : ∀ K', K'.length = H0.length → ∀ E, trim true H0.length ⟨.agg [.int .i64 0, .int .i64 0, .int .i64 0, .nils], K' ++ [E], false⟩ = ⟨.agg [.int .i64 0, .int .i64 0, .int .i64 0, .nils], K', false⟩ := fun K' hK E => by
    rw [← hK]; exact trim_in rfl rfl
  have tv : ∀ K', K'.length = H0.length → ∀ E, trim true H0.length ⟨.agg [.int .i64 t1.1, .int .i64 t2.1, .int .i64 t3.1, .sl .shr (bl (strB t4.1))], K' ++ [E], false⟩ = ⟨.agg [.int .i64 t1.1, .int .i64 t2.1, .int .i64 t3.1, .sl .shr (bl (strB t4.1))], K', false⟩ := fun K' hK E => by
    rw [← hK]; exact trim_in rfl (by simp [TV.lt, TV.lts, bl_lts])
  cases hc : entB ⟨t1.1, t2.1, t3.1, strB t4.1⟩
  · rw [hc] at hE
    obtain ⟨K5, p5, hF⟩ := p4.failE [.int .i64 t1.1, .int .i64 t2.1, .int .i64 t3.1, .sl (.own 1 false) (bl (strB t4.1))] 3 (by decide)
    have es : rdEnE ⟨t1.1, t2.1, t3.1, strB t4.1⟩ t4.2 = if t4.2.2 = 0 then ([], 3) else t4.2 := by unfold rdEnE; rw [hc, if_neg (by simp)]
    rw [← es] at p5
    have hR := p5.errE [.int .i64 t1.1, .int .i64 t2.1, .int .i64 t3.1, .sl (.own 1 false) (bl (strB t4.1))]
    have hne : (rdEnE ⟨t1.1, t2.1, t3.1, strB t4.1⟩ t4.2).2 ≠ 0 := by rw [es]; split; decide; assumption
    rw [if_pos hne]
    have hb : ((rdEnE ⟨t1.1, t2.1, t3.1, strB t4.1⟩ t4.2).2 != 0) = true := by simp [hne]
    refine ⟨K5, .nils, p5, ⟨rfl, rfl⟩, ?_⟩
    have hz := tz K5 p5.length
    unfold En.tvw zEn
    refine callT_of rfl tab_record_ReadEntry ?_
    simp (maxSteps := 4000000) only [↓set16, ↓sl16, zaa, zab, zac, zad, zz0, zz1, zz2, zz3, zz4, zae, zaf, zag, zah, zai, zaj, zak, zal, zam, zan, zao, zap, zaq, zar, zas, zat, zau, zav, zaw, zax, zay, zaz, zba, zbb, zbc, zbd, zbe, zbf, zbg, zbh, zbi, zbj, zbk, zbl, zbm, zbn, zbo, zbp, zbq, zbr, zbs, zbt, zbu, zbv, zbw, zbx, zby, zbz, zca, zcb, zcc, zcd, zce, zcf, zcg, zch, zci, zcj, zck, zcl, zcm, zcn, ne_eq, zco, zcp, zcq, zcr, zcs, List.replicate, zct, zcu, zcv, zcw, zcx, zcy, zcz, zda, zdb, zdc, zdd, zde, zdf, zdg, zdh, zdi, killT, delta, tak, ev, ad, taks, evs, nL, getH, pack, arith, callD, Nat.reduceAdd, Nat.reduceSub, Nat.reduceMul, Nat.reduceLeDiff, Nat.reduceEqDiff, Nat.reduceBEq, Nat.reduceBNe, Nat.reduceLT, Nat.reduceDiv, Int.reduceNeg, Int.reduceLT, Int.reduceLE, Int.reduceEq, Int.reduceNe, Int.reduceAdd, Int.reduceSub, Int.reduceMul, Int.reduceToNat, Int.reduceBEq, Int.reduceBNe, fillP, fillE, okE, okW, bound, elS, srcS, Fin, finish, ress, resOf, one, keeps, ↓reduceIte, Dl.ap, Dl.slots, okD, isLp, zeros, reduceCtorEq, zdj, zdk, tf_record_ReadEntry, jn_record_ReadEntry_1, hlen, hO, hT, hX, hrm, ofBytes_bl, l4, s4, g4, dd, ltl, hE, hF, hR, hb, hz]
  · rw [hc] at hE
    have es : rdEnE ⟨t1.1, t2.1, t3.1, strB t4.1⟩ t4.2 = t4.2 := by unfold rdEnE; rw [hc, if_pos rfl]
    rw [es]
    have hR := p4.errE [.int .i64 t1.1, .int .i64 t2.1, .int .i64 t3.1, .sl (.own 1 false) (bl (strB t4.1))]
    by_cases h0 : t4.2.2 = 0
    · rw [if_neg (by simp [h0])]
      have hb : (t4.2.2 != 0) = false := by simp [h0]
      refine ⟨K4, .sl .shr (bl (strB t4.1)), p4, ⟨rfl, rfl⟩, ?_⟩
      have hv := tv K4 p4.length
      unfold En.tvw
      refine callT_of rfl tab_record_ReadEntry ?_
      simp (maxSteps := 4000000) only [↓set16, ↓sl16, zaa, zab, zac, zad, zz0, zz1, zz2, zz3, zz4, zae, zaf, zag, zah, zai, zaj, zak, zal, zam, zan, zao, zap, zaq, zar, zas, zat, zau, zav, zaw, zax, zay, zaz, zba, zbb, zbc, zbd, zbe, zbf, zbg, zbh, zbi, zbj, zbk, zbl, zbm, zbn, zbo, zbp, zbq, zbr, zbs, zbt, zbu, zbv, zbw, zbx, zby, zbz, zca, zcb, zcc, zcd, zce, zcf, zcg, zch, zci, zcj, zck, zcl, zcm, zcn, ne_eq, zco, zcp, zcq, zcr, zcs, List.replicate, zct, zcu, zcv, zcw, zcx, zcy, zcz, zda, zdb, zdc, zdd, zde, zdf, zdg, zdh, zdi, killT, delta, tak, ev, ad, taks, evs, nL, getH, pack, arith, callD, Nat.reduceAdd, Nat.reduceSub, Nat.reduceMul, Nat.reduceLeDiff, Nat.reduceEqDiff, Nat.reduceBEq, Nat.reduceBNe, Nat.reduceLT, Nat.reduceDiv, Int.reduceNeg, Int.reduceLT, Int.reduceLE, Int.reduceEq, Int.reduceNe, Int.reduceAdd, Int.reduceSub, Int.reduceMul, Int.reduceToNat, Int.reduceBEq, Int.reduceBNe, fillP, fillE, okE, okW, bound, elS, srcS, Fin, finish, ress, resOf, one, keeps, ↓reduceIte, Dl.ap, Dl.slots, okD, isLp, zeros, reduceCtorEq, zdj, zdk, tf_record_ReadEntry, jn_record_ReadEntry_1, hlen, hO, hT, hX, hrm, ofBytes_bl, l4, s4, g4, dd, ltl, hE, hR, hb, hv]
    · rw [if_pos h0]
      have hb : (t4.2.2 != 0) = true := by simp [h0]
      refine ⟨K4, .nils, p4, ⟨rfl, rfl⟩, ?_⟩
      have hz := tz K4 p4.length
      unfold En.tvw zEn
      refine callT_of rfl tab_record_ReadEntry ?_
      simp (maxSteps := 4000000) only [↓set16, ↓sl16, zaa, zab, zac, zad, zz0, zz1, zz2, zz3, zz4, zae, zaf, zag, zah, zai, zaj, zak, zal, zam, zan, zao, zap, zaq, zar, zas, zat, zau, zav, zaw, zax, zay, zaz, zba, zbb, zbc, zbd, zbe, zbf, zbg, zbh, zbi, zbj, zbk, zbl, zbm, zbn, zbo, zbp, zbq, zbr, zbs, zbt, zbu, zbv, zbw, zbx, zby, zbz, zca, zcb, zcc, zcd, zce, zcf, zcg, zch, zci, zcj, zck, zcl, zcm, zcn, ne_eq, zco, zcp, zcq, zcr, zcs, List.replicate, zct, zcu, zcv, zcw, zcx, zcy, zcz, zda, zdb, zdc, zdd, zde, zdf, zdg, zdh, zdi, killT, delta, tak, ev, ad, taks, evs, nL, getH, pack, arith, callD, Nat.reduceAdd, Nat.reduceSub, Nat.reduceMul, Nat.reduceLeDiff, Nat.reduceEqDiff, Nat.reduceBEq, Nat.reduceBNe, Nat.reduceLT, Nat.reduceDiv, Int.reduceNeg, Int.reduceLT, Int.reduceLE, Int.reduceEq, Int.reduceNe, Int.reduceAdd, Int.reduceSub, Int.reduceMul, Int.reduceToNat, Int.reduceBEq, Int.reduceBNe, fillP, fillE, okE, okW, bound, elS, srcS, Fin, finish, ress, resOf, one, keeps, ↓reduceIte, Dl.ap, Dl.slots, okD, isLp, zeros, reduceCtorEq, zdj, zdk, tf_record_ReadEntry, jn_record_ReadEntry_1, hlen, hO, hT, hX, hrm, ofBytes_bl, l4, s4, g4, dd, ltl, hE, hR, hb, hz]
theorem RR.readE (h : RR H0 i s H) : ∃ H' V, RR H0 i (rdEn s).2 H' ∧ RdB V (rdEn s).1.dt ∧ CT n_ref11_ReadEntry [.ptr i 0] H = some ⟨(rdEn s).1.tvw V, H', false⟩ := by
  obtain ⟨K1, p1, C1⟩ := h.num 2147483648 (by decide)
  obtain ⟨K2, p2, C2⟩ := p1.num 2147483648 (by decide)
  obtain ⟨K3, p3, C3⟩ := p2.num 2 (by decide)
  obtain ⟨K4, p4, C4⟩ := p3.text 4096 (by decide)
  have hts := rT_size 4096 (by decide) (rN 2 (rN 2147483648 (rN 2147483648 s).2).2).2
  unfold rdEn
  simp only
  generalize rT 4096 (rN 2 (rN 2147483648 (rN 2147483648 s).2).2).2 = t4 at *
  generalize rN 2 (rN 2147483648 (rN 2147483648 s).2).2 = t3 at *
  generalize rN 2147483648 (rN 2147483648 s).2 = t2 at *
  generalize rN 2147483648 s = t1 at *
  have hlen := h.length
  have hrm : t4.1.size ≤ roomB := by unfold roomB; omega
  have hE := ref11_Entry (H := K4) ⟨t1.1, t2.1, t3.1, strB t4.1⟩
  rw [En.tv_eq] at hE
  have hR := p4.err
  have tq : ∀ (v : TV) K', K'.length = H0.length → trim true H0.length ⟨v, K', false⟩ = ⟨v, K', false⟩ := fun v K' hK => trim_eq hK
  by_cases h0 : t4.2.2 = 0
  · have hb0 : (t4.2.2 == 0) = true := by simp [h0]
    cases hc : entB ⟨t1.1, t2.1, t3.1, strB t4.1⟩
    · rw [hc] at hE
      obtain ⟨K5, p5, hF⟩ := p4.fail 3 (by decide)
      rw [if_pos h0] at p5
      have es : rdEnE ⟨t1.1, t2.1, t3.1, strB t4.1⟩ t4.2 = ([], 3) := by unfold rdEnE; rw [hc, if_neg (by simp), if_pos h0]
      rw [es, if_pos (by decide)]
      have hR5 := p5.err
      refine ⟨K5, .nils, p5, ⟨rfl, rfl⟩, ?_⟩
      have hz := tq (zEn.tvw .nils) K5 p5.length
      unfold En.tvw zEn at hz ⊢
      refine callT_of rfl tab_ref11_ReadEntry ?_
      simp (maxSteps := 4000000) only [↓set16, ↓sl16, zaa, zab, zac, zad, zz0, zz1, zz2, zz3, zz4, zae, zaf, zag, zah, zai, zaj, zak, zal, zam, zan, zao, zap, zaq, zar, zas, zat, zau, zav, zaw, zax, zay, zaz, zba, zbb, zbc, zbd, zbe, zbf, zbg, zbh, zbi, zbj, zbk, zbl, zbm, zbn, zbo, zbp, zbq, zbr, zbs, zbt, zbu, zbv, zbw, zbx, zby, zbz, zca, zcb, zcc, zcd, zce, zcf, zcg, zch, zci, zcj, zck, zcl, zcm, zcn, ne_eq, zco, zcp, zcq, zcr, zcs, List.replicate, zct, zcu, zcv, zcw, zcx, zcy, zcz, zda, zdb, zdc, zdd, zde, zdf, zdg, zdh, zdi, killT, delta, tak, ev, ad, taks, evs, nL, getH, pack, arith, callD, Nat.reduceAdd, Nat.reduceSub, Nat.reduceMul, Nat.reduceLeDiff, Nat.reduceEqDiff, Nat.reduceBEq, Nat.reduceBNe, Nat.reduceLT, Nat.reduceDiv, Int.reduceNeg, Int.reduceLT, Int.reduceLE, Int.reduceEq, Int.reduceNe, Int.reduceAdd, Int.reduceSub, Int.reduceMul, Int.reduceToNat, Int.reduceBEq, Int.reduceBNe, fillP, fillE, okE, okW, bound, elS, srcS, Fin, finish, ress, resOf, one, keeps, ↓reduceIte, Dl.ap, Dl.slots, okD, isLp, zeros, reduceCtorEq, zdj, zdk, tf_ref11_ReadEntry, jn_ref11_ReadEntry_1, hlen, C1, C2, C3, C4, hrm, ofBytes_bl, hR, hb0, hE, hF, hR5, show ((3 : Int) != 0) = true from rfl, hz]
    · rw [hc] at hE
      have hb : (t4.2.2 != 0) = false := by simp [h0]
      have es : rdEnE ⟨t1.1, t2.1, t3.1, strB t4.1⟩ t4.2 = t4.2 := by unfold rdEnE; rw [hc, if_pos rfl]
      rw [es, if_neg (by simp [h0])]
      refine ⟨K4, .sl (.own 1 false) (bl (strB t4.1)), p4, ⟨rfl, rfl⟩, ?_⟩
      have hz := tq ((⟨t1.1, t2.1, t3.1, strB t4.1⟩ : En).tvw (.sl (.own 1 false) (bl (strB t4.1)))) K4 p4.length
      unfold En.tvw at hz ⊢
      refine callT_of rfl tab_ref11_ReadEntry ?_
      simp (maxSteps := 4000000) only [↓set16, ↓sl16, zaa, zab, zac, zad, zz0, zz1, zz2, zz3, zz4, zae, zaf, zag, zah, zai, zaj, zak, zal, zam, zan, zao, zap, zaq, zar, zas, zat, zau, zav, zaw, zax, zay, zaz, zba, zbb, zbc, zbd, zbe, zbf, zbg, zbh, zbi, zbj, zbk, zbl, zbm, zbn, zbo, zbp, zbq, zbr, zbs, zbt, zbu, zbv, zbw, zbx, zby, zbz, zca, zcb, zcc, zcd, zce, zcf, zcg, zch, zci, zcj, zck, zcl, zcm, zcn, ne_eq, zco, zcp, zcq, zcr, zcs, List.replicate, zct, zcu, zcv, zcw, zcx, zcy, zcz, zda, zdb, zdc, zdd, zde, zdf, zdg, zdh, zdi, killT, delta, tak, ev, ad, taks, evs, nL, getH, pack, arith, callD, Nat.reduceAdd, Nat.reduceSub, Nat.reduceMul, Nat.reduceLeDiff, Nat.reduceEqDiff, Nat.reduceBEq, Nat.reduceBNe, Nat.reduceLT, Nat.reduceDiv, Int.reduceNeg, Int.reduceLT, Int.reduceLE, Int.reduceEq, Int.reduceNe, Int.reduceAdd, Int.reduceSub, Int.reduceMul, Int.reduceToNat, Int.reduceBEq, Int.reduceBNe, fillP, fillE, okE, okW, bound, elS, srcS, Fin, finish, ress, resOf, one, keeps, ↓reduceIte, Dl.ap, Dl.slots, okD, isLp, zeros, reduceCtorEq, zdj, zdk, tf_ref11_ReadEntry, jn_ref11_ReadEntry_1, hlen, C1, C2, C3, C4, hrm, ofBytes_bl, hR, hb0, hE, hb, hz]
  · have hb0 : (t4.2.2 == 0) = false := by simp [h0]
    have hb : (t4.2.2 != 0) = true := by simp [h0]
    have es : rdEnE ⟨t1.1, t2.1, t3.1, strB t4.1⟩ t4.2 = t4.2 := by unfold rdEnE; split <;> first | rfl | exact if_neg h0
    rw [es, if_pos h0]
    refine ⟨K4, .nils, p4, ⟨rfl, rfl⟩, ?_⟩
    have hz := tq (zEn.tvw .nils) K4 p4.length
    unfold En.tvw zEn at hz ⊢
    refine callT_of rfl tab_ref11_ReadEntry ?_
    simp (maxSteps := 4000000) only [↓set16, ↓sl16, zaa, zab, zac, zad, zz0, zz1, zz2, zz3, zz4, zae, zaf, zag, zah, zai, zaj, zak, zal, zam, zan, zao, zap, zaq, zar, zas, zat, zau, zav, zaw, zax, zay, zaz, zba, zbb, zbc, zbd, zbe, zbf, zbg, zbh, zbi, zbj, zbk, zbl, zbm, zbn, zbo, zbp, zbq, zbr, zbs, zbt, zbu, zbv, zbw, zbx, zby, zbz, zca, zcb, zcc, zcd, zce, zcf, zcg, zch, zci, zcj, zck, zcl, zcm, zcn, ne_eq, zco, zcp, zcq, zcr, zcs, List.replicate, zct, zcu, zcv, zcw, zcx, zcy, zcz, zda, zdb, zdc, zdd, zde, zdf, zdg, zdh, zdi, killT, delta, tak, ev, ad, taks, evs, nL, getH, pack, arith, callD, Nat.reduceAdd, Nat.reduceSub, Nat.reduceMul, Nat.reduceLeDiff, Nat.reduceEqDiff, Nat.reduceBEq, Nat.reduceBNe, Nat.reduceLT, Nat.reduceDiv, Int.reduceNeg, Int.reduceLT, Int.reduceLE, Int.reduceEq, Int.reduceNe, Int.reduceAdd, Int.reduceSub, Int.reduceMul, Int.reduceToNat, Int.reduceBEq, Int.reduceBNe, fillP, fillE, okE, okW, bound, elS, srcS, Fin, finish, ress, resOf, one, keeps, ↓reduceIte, Dl.ap, Dl.slots, okD, isLp, zeros, reduceCtorEq, zdj, zdk, tf_ref11_ReadEntry, jn_ref11_ReadEntry_1, hlen, C1, C2, C3, C4, hrm, ofBytes_bl, hR, hb0, hb, hz]
end Go.T
