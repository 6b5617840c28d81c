/- What the record's functions answer: a record, read. -/
import Derived.Test.YtijmmpeadikkbaaOrec8
set_option linter.unusedVariables false
set_option linter.unusedSimpArgs false
set_option maxRecDepth 10000
set_option pp.deepTerms true
set_option pp.maxSteps 1000000
set_option maxHeartbeats 2000000
namespace Go.T
attribute [local irreducible] Run Back RS Ap
variable {K0 K H H0 : Heap} {i j : Nat} {s : RSt}
theorem RdB.or {V : TV} {l : List Int} (h : RdB V l) : (V = .nils ∧ l = []) ∨ ∃ g, V = .sl g (bl l) := by
  obtain ⟨h1, h2⟩ := h
  cases V with
  | sl g x => simp only [TV.shr0, TV.sl.injEq, true_and] at h1; exact .inr ⟨g, by rw [h1]⟩
  | nils =>
    simp only [TV.shr0, TV.sl.injEq, true_and] at h1
    refine .inl ⟨rfl, ?_⟩
    cases l with
    | nil => rfl
    | cons a l => cases h1
  | _ => simp [TV.shr0] at h1
theorem PR.endE (h : PR K0 i s K) (E : List TV) : CT n_pack_Reader_End [.ptr i 0] (K ++ [E]) = some ⟨.int .i64 (if 0 < (s.1.length : Int) then 3 else s.2), K ++ [E], false⟩ := (h.join E).end_
theorem take_1 (h : PR K0 i s K) (k : Int) : ∃ K1, PR K0 i (rN 127 (rN 2147483648 (rN 2147483648 s).2).2).2 K1 ∧ CT n_record_take [.ptr i 0, .sl .shr [.agg [.ptr K0.length 7, .int .i64 0, .int .i64 2147483648], .agg [.ptr K0.length 1, .int .i64 0, .int .i64 2147483648], .agg [.ptr K0.length 8, .int .i64 0, .int .i64 127]]] (K ++ [[.int .i64 k, .int .i64 0, .int .i64 0, .int .i64 0, .int .i64 0, .int .i64 0, .nils, .int .i64 0, .int .i64 0, .nils]]) = some ⟨.tup [], K1 ++ [[.int .i64 k, .int .i64 (rN 2147483648 (rN 2147483648 s).2).1, .int .i64 0, .int .i64 0, .int .i64 0, .int .i64 0, .nils, .int .i64 (rN 2147483648 s).1, .int .i64 (rN 127 (rN 2147483648 (rN 2147483648 s).2).2).1, .nils]], false⟩ := by
  obtain ⟨K1, p1, C1⟩ := h.numE [.int .i64 k, .int .i64 0, .int .i64 0, .int .i64 0, .int .i64 0, .int .i64 0, .nils, .int .i64 0, .int .i64 0, .nils] 2147483648 (by decide)
  generalize rN 2147483648 s = t1 at *
  obtain ⟨K2, p2, C2⟩ := p1.numE [.int .i64 k, .int .i64 0, .int .i64 0, .int .i64 0, .int .i64 0, .int .i64 0, .nils, .int .i64 t1.1, .int .i64 0, .nils] 2147483648 (by decide)
  generalize rN 2147483648 t1.2 = t2 at *
  obtain ⟨K3, p3, C3⟩ := p2.numE [.int .i64 k, .int .i64 t2.1, .int .i64 0, .int .i64 0, .int .i64 0, .int .i64 0, .nils, .int .i64 t1.1, .int .i64 0, .nils] 127 (by decide)
  generalize rN 127 t2.2 = t3 at *
  refine ⟨K3, p3, ?_⟩
  have hK := h.length
  have l1 : ∀ E, dead E = false → Go.T.live (K1 ++ [E]) K0.length = some E := fun E hE => live_end p1.length hE
  have s1 : ∀ E E', (K1 ++ [E]).set K0.length E' = K1 ++ [E'] := fun E E' => set_endn p1.length
  have l2 : ∀ E, dead E = false → Go.T.live (K2 ++ [E]) K0.length = some E := fun E hE => live_end p2.length hE
  have s2 : ∀ E E', (K2 ++ [E]).set K0.length E' = K2 ++ [E'] := fun E E' => set_endn p2.length
  have l3 : ∀ E, dead E = false → Go.T.live (K3 ++ [E]) K0.length = some E := fun E hE => live_end p3.length hE
  have s3 : ∀ E E', (K3 ++ [E]).set K0.length E' = K3 ++ [E'] := fun E E' => set_endn p3.length
  have dd : ∀ (a b : TV) (l : List TV), dead (a :: b :: l) = false := fun a b l => dead_two
  have ht := trim_eq (fz := true) (v := .tup []) (h := K3 ++ [[.int .i64 k, .int .i64 t2.1, .int .i64 0, .int .i64 0, .int .i64 0, .int .i64 0, .nils, .int .i64 t1.1, .int .i64 t3.1, .nils]]) (k := false) (b := K0.length + 1) (by simp [p3.length])
  have i0 : ((0 : Nat) : Int) = 0 := rfl
  have i1 : ((1 : Nat) : Int) = 1 := rfl
  have i2 : ((2 : Nat) : Int) = 2 := rfl
  have i3 : ((3 : Nat) : Int) = 3 := rfl
  have w1 : IntKind.i64.wrap 1 = 1 := rfl
  have w2 : IntKind.i64.wrap 2 = 2 := rfl
  have w3 : IntKind.i64.wrap 3 = 3 := rfl
  refine callT_of rfl tab_record_take ?_
  simp (maxSteps := 4000000) only [↓set16, ↓sl16, zaa, zab, zac, zad, zz0, zz1, zz2, zz3, zz4, zae, zaf, zag, zah, zai, zaj, zak, zal, zam, zan, zao, zap, zaq, zar, zas, zat, zau, zav, zaw, zax, zay, zaz, zba, zbb, zbc, zbd, zbe, zbf, zbg, zbh, zbi, zbj, zbk, zbl, zbm, zbn, zbo, zbp, zbq, zbr, zbs, zbt, zbu, zbv, zbw, zbx, zby, zbz, zca, zcb, zcc, zcd, zce, zcf, zcg, zch, zci, zcj, zck, zcl, zcm, zcn, ne_eq, zco, zcp, zcq, zcr, zcs, List.replicate, zct, zcu, zcv, zcw, zcx, zcy, zcz, zda, zdb, zdc, zdd, zde, zdf, zdg, zdh, zdi, killT, delta, tak, ev, ad, taks, evs, nL, getH, pack, arith, callD, Nat.reduceAdd, Nat.reduceSub, Nat.reduceMul, Nat.reduceLeDiff, Nat.reduceEqDiff, Nat.reduceBEq, Nat.reduceBNe, Nat.reduceLT, Nat.reduceDiv, Int.reduceNeg, Int.reduceLT, Int.reduceLE, Int.reduceEq, Int.reduceNe, Int.reduceAdd, Int.reduceSub, Int.reduceMul, Int.reduceToNat, Int.reduceBEq, Int.reduceBNe, fillP, fillE, okE, okW, bound, elS, srcS, Fin, finish, ress, resOf, one, keeps, ↓reduceIte, Dl.ap, Dl.slots, okD, isLp, zeros, reduceCtorEq, zdj, zdk, tf_record_take, Run_loop, lp_record_take_1, i0, i1, i2, i3, w1, w2, w3, hK, C1, l1, s1, C2, l2, s2, C3, l3, s3, dd, lts_i, ht]
theorem take_2 (h : PR K0 i s K) (k : Int) : ∃ K1, PR K0 i (rN 7 (rN 2147483648 s).2).2 K1 ∧ CT n_record_take [.ptr i 0, .sl .shr [.agg [.ptr K0.length 1, .int .i64 0, .int .i64 2147483648], .agg [.ptr K0.length 2, .int .i64 0, .int .i64 7]]] (K ++ [[.int .i64 k, .int .i64 0, .int .i64 0, .int .i64 0, .int .i64 0, .int .i64 0, .nils, .int .i64 0, .int .i64 0, .nils]]) = some ⟨.tup [], K1 ++ [[.int .i64 k, .int .i64 (rN 2147483648 s).1, .int .i64 (rN 7 (rN 2147483648 s).2).1, .int .i64 0, .int .i64 0, .int .i64 0, .nils, .int .i64 0, .int .i64 0, .nils]], false⟩ := by
  obtain ⟨K1, p1, C1⟩ := h.numE [.int .i64 k, .int .i64 0, .int .i64 0, .int .i64 0, .int .i64 0, .int .i64 0, .nils, .int .i64 0, .int .i64 0, .nils] 2147483648 (by decide)
  generalize rN 2147483648 s = t1 at *
  obtain ⟨K2, p2, C2⟩ := p1.numE [.int .i64 k, .int .i64 t1.1, .int .i64 0, .int .i64 0, .int .i64 0, .int .i64 0, .nils, .int .i64 0, .int .i64 0, .nils] 7 (by decide)
  generalize rN 7 t1.2 = t2 at *
  refine ⟨K2, p2, ?_⟩
  have hK := h.length
  have l1 : ∀ E, dead E = false → Go.T.live (K1 ++ [E]) K0.length = some E := fun E hE => live_end p1.length hE
  have s1 : ∀ E E', (K1 ++ [E]).set K0.length E' = K1 ++ [E'] := fun E E' => set_endn p1.length
  have l2 : ∀ E, dead E = false → Go.T.live (K2 ++ [E]) K0.length = some E := fun E hE => live_end p2.length hE
  have s2 : ∀ E E', (K2 ++ [E]).set K0.length E' = K2 ++ [E'] := fun E E' => set_endn p2.length
  have dd : ∀ (a b : TV) (l : List TV), dead (a :: b :: l) = false := fun a b l => dead_two
  have ht := trim_eq (fz := true) (v := .tup []) (h := K2 ++ [[.int .i64 k, .int .i64 t1.1, .int .i64 t2.1, .int .i64 0, .int .i64 0, .int .i64 0, .nils, .int .i64 0, .int .i64 0, .nils]]) (k := false) (b := K0.length + 1) (by simp [p2.length])
  have i0 : ((0 : Nat) : Int) = 0 := rfl
  have i1 : ((1 : Nat) : Int) = 1 := rfl
  have i2 : ((2 : Nat) : Int) = 2 := rfl
  have i3 : ((3 : Nat) : Int) = 3 := rfl
  have w1 : IntKind.i64.wrap 1 = 1 := rfl
  have w2 : IntKind.i64.wrap 2 = 2 := rfl
  have w3 : IntKind.i64.wrap 3 = 3 := rfl
  refine callT_of rfl tab_record_take ?_
  simp (maxSteps := 4000000) only [↓set16, ↓sl16, zaa, zab, zac, zad, zz0, zz1, zz2, zz3, zz4, zae, zaf, zag, zah, zai, zaj, zak, zal, zam, zan, zao, zap, zaq, zar, zas, zat, zau, zav, zaw, zax, zay, zaz, zba, zbb, zbc, zbd, zbe, zbf, zbg, zbh, zbi, zbj, zbk, zbl, zbm, zbn, zbo, zbp, zbq, zbr, zbs, zbt, zbu, zbv, zbw, zbx, zby, zbz, zca, zcb, zcc, zcd, zce, zcf, zcg, zch, zci, zcj, zck, zcl, zcm, zcn, ne_eq, zco, zcp, zcq, zcr, zcs, List.replicate, zct, zcu, zcv, zcw, zcx, zcy, zcz, zda, zdb, zdc, zdd, zde, zdf, zdg, zdh, zdi, killT, delta, tak, ev, ad, taks, evs, nL, getH, pack, arith, callD, Nat.reduceAdd, Nat.reduceSub, Nat.reduceMul, Nat.reduceLeDiff, Nat.reduceEqDiff, Nat.reduceBEq, Nat.reduceBNe, Nat.reduceLT, Nat.reduceDiv, Int.reduceNeg, Int.reduceLT, Int.reduceLE, Int.reduceEq, Int.reduceNe, Int.reduceAdd, Int.reduceSub, Int.reduceMul, Int.reduceToNat, Int.reduceBEq, Int.reduceBNe, fillP, fillE, okE, okW, bound, elS, srcS, Fin, finish, ress, resOf, one, keeps, ↓reduceIte, Dl.ap, Dl.slots, okD, isLp, zeros, reduceCtorEq, zdj, zdk, tf_record_take, Run_loop, lp_record_take_1, i0, i1, i2, i3, w1, w2, w3, hK, C1, l1, s1, C2, l2, s2, dd, lts_i, ht]
theorem take_4 (h : PR K0 i s K) (k : Int) : ∃ K1, PR K0 i (rN 2147483648 s).2 K1 ∧ CT n_record_take [.ptr i 0, .sl .shr [.agg [.ptr K0.length 7, .int .i64 1, .int .i64 2147483648]]] (K ++ [[.int .i64 k, .int .i64 0, .int .i64 0, .int .i64 0, .int .i64 0, .int .i64 0, .nils, .int .i64 0, .int .i64 0, .nils]]) = some ⟨.tup [], K1 ++ [[.int .i64 k, .int .i64 0, .int .i64 0, .int .i64 0, .int .i64 0, .int .i64 0, .nils, .int .i64 (rN 2147483648 s).1, .int .i64 0, .nils]], false⟩ := by
  obtain ⟨K1, p1, C1⟩ := h.numE [.int .i64 k, .int .i64 0, .int .i64 0, .int .i64 0, .int .i64 0, .int .i64 0, .nils, .int .i64 0, .int .i64 0, .nils] 2147483648 (by decide)
  generalize rN 2147483648 s = t1 at *
  refine ⟨K1, p1, ?_⟩
  have hK := h.length
  have l1 : ∀ E, dead E = false → Go.T.live (K1 ++ [E]) K0.length = some E := fun E hE => live_end p1.length hE
  have s1 : ∀ E E', (K1 ++ [E]).set K0.length E' = K1 ++ [E'] := fun E E' => set_endn p1.length
  have dd : ∀ (a b : TV) (l : List TV), dead (a :: b :: l) = false := fun a b l => dead_two
  have ht := trim_eq (fz := true) (v := .tup []) (h := K1 ++ [[.int .i64 k, .int .i64 0, .int .i64 0, .int .i64 0, .int .i64 0, .int .i64 0, .nils, .int .i64 t1.1, .int .i64 0, .nils]]) (k := false) (b := K0.length + 1) (by simp [p1.length])
  have i0 : ((0 : Nat) : Int) = 0 := rfl
  have i1 : ((1 : Nat) : Int) = 1 := rfl
  have i2 : ((2 : Nat) : Int) = 2 := rfl
  have i3 : ((3 : Nat) : Int) = 3 := rfl
  have w1 : IntKind.i64.wrap 1 = 1 := rfl
  have w2 : IntKind.i64.wrap 2 = 2 := rfl
  have w3 : IntKind.i64.wrap 3 = 3 := rfl
  refine callT_of rfl tab_record_take ?_
  simp (maxSteps := 4000000) only [↓set16, ↓sl16, zaa, zab, zac, zad, zz0, zz1, zz2, zz3, zz4, zae, zaf, zag, zah, zai, zaj, zak, zal, zam, zan, zao, zap, zaq, zar, zas, zat, zau, zav, zaw, zax, zay, zaz, zba, zbb, zbc, zbd, zbe, zbf, zbg, zbh, zbi, zbj, zbk, zbl, zbm, zbn, zbo, zbp, zbq, zbr, zbs, zbt, zbu, zbv, zbw, zbx, zby, zbz, zca, zcb, zcc, zcd, zce, zcf, zcg, zch, zci, zcj, zck, zcl, zcm, zcn, ne_eq, zco, zcp, zcq, zcr, zcs, List.replicate, zct, zcu, zcv, zcw, zcx, zcy, zcz, zda, zdb, zdc, zdd, zde, zdf, zdg, zdh, zdi, killT, delta, tak, ev, ad, taks, evs, nL, getH, pack, arith, callD, Nat.reduceAdd, Nat.reduceSub, Nat.reduceMul, Nat.reduceLeDiff, Nat.reduceEqDiff, Nat.reduceBEq, Nat.reduceBNe, Nat.reduceLT, Nat.reduceDiv, Int.reduceNeg, Int.reduceLT, Int.reduceLE, Int.reduceEq, Int.reduceNe, Int.reduceAdd, Int.reduceSub, Int.reduceMul, Int.reduceToNat, Int.reduceBEq, Int.reduceBNe, fillP, fillE, okE, okW, bound, elS, srcS, Fin, finish, ress, resOf, one, keeps, ↓reduceIte, Dl.ap, Dl.slots, okD, isLp, zeros, reduceCtorEq, zdj, zdk, tf_record_take, Run_loop, lp_record_take_1, i0, i1, i2, i3, w1, w2, w3, hK, C1, l1, s1, dd, lts_i, ht]
theorem take_0 (r : TV) (hr : r = .ptr i 0) : CT n_record_take [.ptr i 0, .sl .shr []] H = some ⟨.tup [], H, false⟩ := by
  have i0 : ((0 : Nat) : Int) = 0 := rfl
  refine callT_of rfl tab_record_take ?_
  simp (maxSteps := 4000000) only [↓set16, ↓sl16, zaa, zab, zac, zad, zz0, zz1, zz2, zz3, zz4, zae, zaf, zag, zah, zai, zaj, zak, zal, zam, zan, zao, zap, zaq, zar, zas, zat, zau, zav, zaw, zax, zay, zaz, zba, zbb, zbc, zbd, zbe, zbf, zbg, zbh, zbi, zbj, zbk, zbl, zbm, zbn, zbo, zbp, zbq, zbr, zbs, zbt, zbu, zbv, zbw, zbx, zby, zbz, zca, zcb, zcc, zcd, zce, zcf, zcg, zch, zci, zcj, zck, zcl, zcm, zcn, ne_eq, zco, zcp, zcq, zcr, zcs, List.replicate, zct, zcu, zcv, zcw, zcx, zcy, zcz, zda, zdb, zdc, zdd, zde, zdf, zdg, zdh, zdi, killT, delta, tak, ev, ad, taks, evs, nL, getH, pack, arith, callD, Nat.reduceAdd, Nat.reduceSub, Nat.reduceMul, Nat.reduceLeDiff, Nat.reduceEqDiff, Nat.reduceBEq, Nat.reduceBNe, Nat.reduceLT, Nat.reduceDiv, Int.reduceNeg, Int.reduceLT, Int.reduceLE, Int.reduceEq, Int.reduceNe, Int.reduceAdd, Int.reduceSub, Int.reduceMul, Int.reduceToNat, Int.reduceBEq, Int.reduceBNe, fillP, fillE, okE, okW, bound, elS, srcS, Fin, finish, ress, resOf, one, keeps, ↓reduceIte, Dl.ap, Dl.slots, okD, isLp, zeros, reduceCtorEq, zdj, zdk, tf_record_take, Run_loop, lp_record_take_1, i0, Int.lt_irrefl]
def zR : Rc := ⟨0, 0, 0, zEn, 0, 0, []⟩
def rdRE (x : Rc) (s : RSt) : RSt := if checkB x = true then s else if s.2 = 0 then ([], 3) else s
def endC (s : RSt) : Int := if 0 < (s.1.length : Int) then 3 else s.2
/-- What the kind has, read. -/
def rdBody (a : Int × RSt) : Rc × RSt :=
  if a.1 = 1 then (⟨a.1, (rN 2147483648 (rN 2147483648 a.2).2).1, 0, zEn, (rN 2147483648 a.2).1, (rN 127 (rN 2147483648 (rN 2147483648 a.2).2).2).1, strB (rT 131072 (rN 127 (rN 2147483648 (rN 2147483648 a.2).2).2).2).1⟩, (rT 131072 (rN 127 (rN 2147483648 (rN 2147483648 a.2).2).2).2).2)
  else if a.1 = 2 then (⟨a.1, (rN 2147483648 a.2).1, (rN 7 (rN 2147483648 a.2).2).1, zEn, 0, 0, []⟩, (rN 7 (rN 2147483648 a.2).2).2)
  else if a.1 = 3 then (⟨a.1, 0, 0, (rdEn a.2).1, 0, 0, []⟩, (rdEn a.2).2)
  else if a.1 = 4 then (⟨a.1, 0, 0, zEn, (rN 2147483648 a.2).1, 0, []⟩, (rN 2147483648 a.2).2)
  else (⟨a.1, 0, 0, zEn, 0, 0, []⟩, a.2)
def rdR (b : List Int) : Rc × Int :=
  let p := rdBody (rN 4 (b, 0))
  if endC (rdRE p.1 p.2) ≠ 0 then (zR, endC (rdRE p.1 p.2)) else (p.1, 0)
theorem endC_f {x : Rc} {s : RSt} (he : s.2 ≠ 0 → s.1 = []) (hc : checkB x = false) : endC (rdRE x s) ≠ 0 := by
  have es : rdRE x s = if s.2 = 0 then ([], 3) else s := by unfold rdRE; rw [hc, if_neg (by simp)]
  rw [es]
  by_cases h0 : s.2 = 0
  · rw [if_pos h0]; decide
  · rw [if_neg h0]; unfold endC; rw [he h0]; simpa using h0
theorem rdEn_len (s : RSt) : (rdEn s).1.dt.length ≤ 9223372036854775807 := by
  have hts := rT_size 4096 (by decide) (rN 2 (rN 2147483648 (rN 2147483648 s).2).2).2
  unfold rdEn
  simp only
  split
  · simp [zEn]
  · simp only [strB_len]; omega
theorem record_Decode (b : List Int) (hb : b.length ≤ 4000000) (hby : ∀ x ∈ b, 0 ≤ x ∧ x ≤ 255) : ∃ V W, RdB V (rdR b).1.en.dt ∧ RdB W (rdR b).1.sn ∧ CT n_record_Decode [.sl .shr (bl b)] H = some ⟨.tup [.agg ((rdR b).1.cells V W), .int .i64 (rdR b).2], H, false⟩ := by
  have O := pack_Open (H := H) b hb
  have P0 := PR.open_ (H := H) b hb hby
  obtain ⟨K0', P1, C1⟩ := P0.num 4 (by decide)
  have hk1 := rN_nn 4 (b, 0)
  have hk2 := rN_le 4 (by decide) (b, 0)
  unfold rdR
  generalize rN 4 (b, 0) = a at *
  obtain ⟨k, s⟩ := a
  simp only at P1 C1 hk1 hk2
  generalize hZ : H ++ [[TV.sl .shr (bl b), .int .i64 0, .bool true]] = Z at *
  have hZl : Z.length = H.length + 1 := by rw [← hZ]; simp
  have hKl := P1.length
  rw [hZl] at hKl
  have dd : ∀ (a b : TV) (l : List TV), dead (a :: b :: l) = false := fun a b l => dead_two
  have lsl : ∀ n (g : Tag) l, TV.lts n [.sl g (bl l)] = true := fun n g l => by simp [TV.lts, TV.lt, bl_lts]
  have l10 : ∀ n k, TV.lts n [.int .i64 k, .int .i64 0, .int .i64 0, .int .i64 0, .int .i64 0, .int .i64 0, .nils, .int .i64 0, .int .i64 0, .nils] = true := fun n k => rfl
  have tz : ∀ K s, PR Z H.length s K → ∀ e E, trim true H.length ⟨.tup [.agg [.int .i64 0, .int .i64 0, .int .i64 0, .int .i64 0, .int .i64 0, .int .i64 0, .nils, .int .i64 0, .int .i64 0, .nils], .int .i64 e], K ++ [E], false⟩ = ⟨.tup [.agg [.int .i64 0, .int .i64 0, .int .i64 0, .int .i64 0, .int .i64 0, .int .i64 0, .nils, .int .i64 0, .int .i64 0, .nils], .int .i64 e], H, false⟩ := fun K s p e E => by
    rw [← hZ] at p
    obtain ⟨x, rfl⟩ := p.drop
    rw [List.append_assoc]
    exact trim_in rfl rfl
  have tv : ∀ K s, PR Z H.length s K → ∀ k t v x1 x2 x3 dt x c sn E, trim true H.length ⟨.tup [.agg [.int .i64 k, .int .i64 t, .int .i64 v, .int .i64 x1, .int .i64 x2, .int .i64 x3, .sl .shr (bl dt), .int .i64 x, .int .i64 c, .sl .shr (bl sn)], .int .i64 0], K ++ [E], false⟩ = ⟨.tup [.agg [.int .i64 k, .int .i64 t, .int .i64 v, .int .i64 x1, .int .i64 x2, .int .i64 x3, .sl .shr (bl dt), .int .i64 x, .int .i64 c, .sl .shr (bl sn)], .int .i64 0], H, false⟩ := fun K s p k t v x1 x2 x3 dt x c sn E => by
    rw [← hZ] at p
    obtain ⟨x, rfl⟩ := p.drop
    rw [List.append_assoc]
    exact trim_in rfl (by simp [TV.lt, TV.lts, bl_lts])
  have nb : bl [] = [] := rfl
  have O1 := record_ofRecord (H := K0' ++ [[.int .i64 k, .int .i64 0, .int .i64 0, .int .i64 0, .int .i64 0, .int .i64 0, .nils, .int .i64 0, .int .i64 0, .nils]]) (j := H.length + 1) ⟨k, 0, 0, zEn, 0, 0, []⟩ (v := .nils) (w := .nils) (live_end hKl rfl)
  have g0 : ∀ E, dead E = false → Go.T.live (K0' ++ [E]) (H.length + 1) = some E := fun E hE => live_end hKl hE
  have s0 : ∀ E E', (K0' ++ [E]).set (H.length + 1) E' = K0' ++ [E'] := fun E E' => set_endn hKl
  by_cases h1 : k = 1
  · have q1 : (k == 1) = true := by simp [h1]
    unfold rdBody
    rw [if_pos h1]
    try simp only
    have eN : (⟨k, 0, 0, zEn, 0, 0, []⟩ : Rc).numT (H.length + 1) = .sl (.own 3 true) [.agg [.ptr (H.length + 1) 7, .int .i64 0, .int .i64 2147483648], .agg [.ptr (H.length + 1) 1, .int .i64 0, .int .i64 2147483648], .agg [.ptr (H.length + 1) 8, .int .i64 0, .int .i64 127]] := by unfold Rc.numT Rc.nums; simp only; rw [if_pos (.inl h1), if_pos h1]; rfl
    rw [eN] at O1
    obtain ⟨K1, p1, T1⟩ := take_1 P1 k
    rw [hZl] at T1
    have hts := rT_size 131072 (by decide) (rN 127 (rN 2147483648 (rN 2147483648 s).2).2).2
    obtain ⟨K2, p2, X1⟩ := p1.textE [.int .i64 k, .int .i64 (rN 2147483648 (rN 2147483648 s).2).1, .int .i64 0, .int .i64 0, .int .i64 0, .int .i64 0, .nils, .int .i64 (rN 2147483648 s).1, .int .i64 (rN 127 (rN 2147483648 (rN 2147483648 s).2).2).1, .nils] 131072 (by decide)
    generalize rT 131072 (rN 127 (rN 2147483648 (rN 2147483648 s).2).2).2 = tx at *
    generalize rN 127 (rN 2147483648 (rN 2147483648 s).2).2 = t3 at *
    generalize rN 2147483648 (rN 2147483648 s).2 = t2 at *
    generalize rN 2147483648 s = t1 at *
    have hrm : tx.1.size ≤ roomB := by unfold roomB; omega
    have hxl : (strB tx.1).length ≤ 9223372036854775807 := by rw [strB_len]; omega
    have g1 : ∀ E, dead E = false → Go.T.live (K1 ++ [E]) (H.length + 1) = some E := fun E hE => live_end (by rw [p1.length, hZl]) hE
    try simp only
    have g2 : ∀ E, dead E = false → Go.T.live (K2 ++ [E]) (H.length + 1) = some E := fun E hE => live_end (by rw [p2.length, hZl]) hE
    have z2 : ∀ E E', (K2 ++ [E]).set (H.length + 1) E' = K2 ++ [E'] := fun E E' => set_endn (by rw [p2.length, hZl])
    have CK := record_Check (H := K2 ++ [[.int .i64 k, .int .i64 t2.1, .int .i64 0, .int .i64 0, .int .i64 0, .int .i64 0, .nils, .int .i64 t1.1, .int .i64 t3.1, .sl (.own 1 false) (bl (strB tx.1))]]) ⟨k, t2.1, 0, zEn, t1.1, t3.1, strB tx.1⟩ (by simp [zEn]) hxl
    rw [Rc.tv_eq] at CK
    simp only [zEn, nb] at CK
    cases hc : checkB (⟨k, t2.1, 0, zEn, t1.1, t3.1, strB tx.1⟩ : Rc)
    · have hc' := hc
      try simp only [zEn] at hc'
      rw [hc', ckE_f] at CK
      have hne := endC_f (s := tx.2) p2.er hc
      obtain ⟨K5, p5, F1⟩ := p2.failE [.int .i64 k, .int .i64 t2.1, .int .i64 0, .int .i64 0, .int .i64 0, .int .i64 0, .nils, .int .i64 t1.1, .int .i64 t3.1, .sl (.own 1 false) (bl (strB tx.1))] 3 (by decide)
      have es : rdRE (⟨k, t2.1, 0, zEn, t1.1, t3.1, strB tx.1⟩ : Rc) tx.2 = if tx.2.2 = 0 then ([], 3) else tx.2 := by unfold rdRE; rw [hc, if_neg (by simp)]
      rw [← es] at p5
      have EN := p5.endE [.int .i64 k, .int .i64 t2.1, .int .i64 0, .int .i64 0, .int .i64 0, .int .i64 0, .nils, .int .i64 t1.1, .int .i64 t3.1, .sl (.own 1 false) (bl (strB tx.1))]
      rw [if_pos hne]
      change CT _ _ _ = some ⟨.int .i64 (endC (rdRE (⟨k, t2.1, 0, zEn, t1.1, t3.1, strB tx.1⟩ : Rc) tx.2)), _, _⟩ at EN
      generalize endC (rdRE (⟨k, t2.1, 0, zEn, t1.1, t3.1, strB tx.1⟩ : Rc) tx.2) = e at *
      have hq : (e != 0) = true := by simp [hne]
      have hz := tz K5 _ p5 e
      refine ⟨.nils, .nils, ⟨rfl, rfl⟩, ⟨rfl, rfl⟩, ?_⟩
      unfold Rc.cells zR zEn
      refine callT_of rfl tab_record_Decode ?_
      simp (maxSteps := 4000000) only [↓set16, ↓sl16, zaa, zab, zac, zad, zz0, zz1, zz2, zz3, zz4, zae, zaf, zag, zah, zai, zaj, zak, zal, zam, zan, zao, zap, zaq, zar, zas, zat, zau, zav, zaw, zax, zay, zaz, zba, zbb, zbc, zbd, zbe, zbf, zbg, zbh, zbi, zbj, zbk, zbl, zbm, zbn, zbo, zbp, zbq, zbr, zbs, zbt, zbu, zbv, zbw, zbx, zby, zbz, zca, zcb, zcc, zcd, zce, zcf, zcg, zch, zci, zcj, zck, zcl, zcm, zcn, ne_eq, zco, zcp, zcq, zcr, zcs, List.replicate, zct, zcu, zcv, zcw, zcx, zcy, zcz, zda, zdb, zdc, zdd, zde, zdf, zdg, zdh, zdi, killT, delta, tak, ev, ad, taks, evs, nL, getH, pack, arith, callD, Nat.reduceAdd, Nat.reduceSub, Nat.reduceMul, Nat.reduceLeDiff, Nat.reduceEqDiff, Nat.reduceBEq, Nat.reduceBNe, Nat.reduceLT, Nat.reduceDiv, Int.reduceNeg, Int.reduceLT, Int.reduceLE, Int.reduceEq, Int.reduceNe, Int.reduceAdd, Int.reduceSub, Int.reduceMul, Int.reduceToNat, Int.reduceBEq, Int.reduceBNe, fillP, fillE, okE, okW, bound, elS, srcS, Fin, finish, ress, resOf, one, keeps, ↓reduceIte, Dl.ap, Dl.slots, okD, isLp, zeros, reduceCtorEq, zdj, zdk, tf_record_Decode, jn_record_Decode_2, jn_record_Decode_1, q1, O, C1, hZ, hKl, O1, g0, s0, g2, z2, dd, l10, lsl, lts_i, T1, X1, hrm, ofBytes_bl, g1, nb, Bool.not_true, Bool.false_or, Bool.or_false, CK, show ((1 : Int) != 0) = true from rfl, F1, EN, hq, hz]
    · have hc' := hc
      try simp only [zEn] at hc'
      rw [hc', ckE_t] at CK
      have es : rdRE (⟨k, t2.1, 0, zEn, t1.1, t3.1, strB tx.1⟩ : Rc) tx.2 = tx.2 := by unfold rdRE; rw [hc, if_pos rfl]
      rw [es]
      have EN := p2.endE [.int .i64 k, .int .i64 t2.1, .int .i64 0, .int .i64 0, .int .i64 0, .int .i64 0, .nils, .int .i64 t1.1, .int .i64 t3.1, .sl (.own 1 false) (bl (strB tx.1))]
      change CT _ _ _ = some ⟨.int .i64 (endC tx.2), _, _⟩ at EN
      by_cases h0 : endC tx.2 = 0
      · rw [if_neg (by simp [h0])]
        rw [h0] at EN
        have hv := tv K2 _ p2 k t2.1 0 0 0 0 [] t1.1 t3.1 (strB tx.1)
        simp only [nb] at hv
        refine ⟨.sl .shr [], .sl .shr (bl (strB tx.1)), ⟨rfl, rfl⟩, ⟨rfl, rfl⟩, ?_⟩
        unfold Rc.cells
        simp only [zEn]
        refine callT_of rfl tab_record_Decode ?_
        simp (maxSteps := 4000000) only [↓set16, ↓sl16, zaa, zab, zac, zad, zz0, zz1, zz2, zz3, zz4, zae, zaf, zag, zah, zai, zaj, zak, zal, zam, zan, zao, zap, zaq, zar, zas, zat, zau, zav, zaw, zax, zay, zaz, zba, zbb, zbc, zbd, zbe, zbf, zbg, zbh, zbi, zbj, zbk, zbl, zbm, zbn, zbo, zbp, zbq, zbr, zbs, zbt, zbu, zbv, zbw, zbx, zby, zbz, zca, zcb, zcc, zcd, zce, zcf, zcg, zch, zci, zcj, zck, zcl, zcm, zcn, ne_eq, zco, zcp, zcq, zcr, zcs, List.replicate, zct, zcu, zcv, zcw, zcx, zcy, zcz, zda, zdb, zdc, zdd, zde, zdf, zdg, zdh, zdi, killT, delta, tak, ev, ad, taks, evs, nL, getH, pack, arith, callD, Nat.reduceAdd, Nat.reduceSub, Nat.reduceMul, Nat.reduceLeDiff, Nat.reduceEqDiff, Nat.reduceBEq, Nat.reduceBNe, Nat.reduceLT, Nat.reduceDiv, Int.reduceNeg, Int.reduceLT, Int.reduceLE, Int.reduceEq, Int.reduceNe, Int.reduceAdd, Int.reduceSub, Int.reduceMul, Int.reduceToNat, Int.reduceBEq, Int.reduceBNe, fillP, fillE, okE, okW, bound, elS, srcS, Fin, finish, ress, resOf, one, keeps, ↓reduceIte, Dl.ap, Dl.slots, okD, isLp, zeros, reduceCtorEq, zdj, zdk, tf_record_Decode, jn_record_Decode_2, jn_record_Decode_1, q1, O, C1, hZ, hKl, O1, g0, s0, g2, z2, dd, l10, lsl, lts_i, T1, X1, hrm, ofBytes_bl, g1, nb, Bool.not_true, Bool.false_or, Bool.or_false, CK, bne_self_eq_false, EN, hv]
      · rw [if_pos h0]
        generalize endC tx.2 = e at *
        have hq : (e != 0) = true := by simp [h0]
        have hz := tz K2 _ p2 e
        refine ⟨.nils, .nils, ⟨rfl, rfl⟩, ⟨rfl, rfl⟩, ?_⟩
        unfold Rc.cells zR zEn
        refine callT_of rfl tab_record_Decode ?_
        simp (maxSteps := 4000000) only [↓set16, ↓sl16, zaa, zab, zac, zad, zz0, zz1, zz2, zz3, zz4, zae, zaf, zag, zah, zai, zaj, zak, zal, zam, zan, zao, zap, zaq, zar, zas, zat, zau, zav, zaw, zax, zay, zaz, zba, zbb, zbc, zbd, zbe, zbf, zbg, zbh, zbi, zbj, zbk, zbl, zbm, zbn, zbo, zbp, zbq, zbr, zbs, zbt, zbu, zbv, zbw, zbx, zby, zbz, zca, zcb, zcc, zcd, zce, zcf, zcg, zch, zci, zcj, zck, zcl, zcm, zcn, ne_eq, zco, zcp, zcq, zcr, zcs, List.replicate, zct, zcu, zcv, zcw, zcx, zcy, zcz, zda, zdb, zdc, zdd, zde, zdf, zdg, zdh, zdi, killT, delta, tak, ev, ad, taks, evs, nL, getH, pack, arith, callD, Nat.reduceAdd, Nat.reduceSub, Nat.reduceMul, Nat.reduceLeDiff, Nat.reduceEqDiff, Nat.reduceBEq, Nat.reduceBNe, Nat.reduceLT, Nat.reduceDiv, Int.reduceNeg, Int.reduceLT, Int.reduceLE, Int.reduceEq, Int.reduceNe, Int.reduceAdd, Int.reduceSub, Int.reduceMul, Int.reduceToNat, Int.reduceBEq, Int.reduceBNe, fillP, fillE, okE, okW, bound, elS, srcS, Fin, finish, ress, resOf, one, keeps, ↓reduceIte, Dl.ap, Dl.slots, okD, isLp, zeros, reduceCtorEq, zdj, zdk, tf_record_Decode, jn_record_Decode_2, jn_record_Decode_1, q1, O, C1, hZ, hKl, O1, g0, s0, g2, z2, dd, l10, lsl, lts_i, T1, X1, hrm, ofBytes_bl, g1, nb, Bool.not_true, Bool.false_or, Bool.or_false, CK, bne_self_eq_false, EN, hq, hz]
  have q1 : (k == 1) = false := by simp [h1]
  by_cases h2 : k = 2
  · have q3 : (k == 3) = false := by simp [h2]
    unfold rdBody
    rw [if_neg h1, if_pos h2]
    try simp only
    have eN : (⟨k, 0, 0, zEn, 0, 0, []⟩ : Rc).numT (H.length + 1) = .sl (.own 3 true) [.agg [.ptr (H.length + 1) 1, .int .i64 0, .int .i64 2147483648], .agg [.ptr (H.length + 1) 2, .int .i64 0, .int .i64 7]] := by unfold Rc.numT Rc.nums; simp only; rw [if_pos (.inr (.inl h2)), if_neg h1, if_pos h2]; rfl
    rw [eN] at O1
    obtain ⟨K2, p2, T1⟩ := take_2 P1 k
    rw [hZl] at T1
    generalize rN 7 (rN 2147483648 s).2 = t2 at *
    generalize rN 2147483648 s = t1 at *
    have hxl : ([] : List Int).length ≤ 9223372036854775807 := by simp
    try simp only
    have g2 : ∀ E, dead E = false → Go.T.live (K2 ++ [E]) (H.length + 1) = some E := fun E hE => live_end (by rw [p2.length, hZl]) hE
    have z2 : ∀ E E', (K2 ++ [E]).set (H.length + 1) E' = K2 ++ [E'] := fun E E' => set_endn (by rw [p2.length, hZl])
    have CK := record_Check (H := K2 ++ [[.int .i64 k, .int .i64 t1.1, .int .i64 t2.1, .int .i64 0, .int .i64 0, .int .i64 0, .nils, .int .i64 0, .int .i64 0, .nils]]) ⟨k, t1.1, t2.1, zEn, 0, 0, []⟩ (by simp [zEn]) hxl
    rw [Rc.tv_eq] at CK
    simp only [zEn, nb] at CK
    cases hc : checkB (⟨k, t1.1, t2.1, zEn, 0, 0, []⟩ : Rc)
    · have hc' := hc
      try simp only [zEn] at hc'
      rw [hc', ckE_f] at CK
      have hne := endC_f (s := t2.2) p2.er hc
      obtain ⟨K5, p5, F1⟩ := p2.failE [.int .i64 k, .int .i64 t1.1, .int .i64 t2.1, .int .i64 0, .int .i64 0, .int .i64 0, .nils, .int .i64 0, .int .i64 0, .nils] 3 (by decide)
      have es : rdRE (⟨k, t1.1, t2.1, zEn, 0, 0, []⟩ : Rc) t2.2 = if t2.2.2 = 0 then ([], 3) else t2.2 := by unfold rdRE; rw [hc, if_neg (by simp)]
      rw [← es] at p5
      have EN := p5.endE [.int .i64 k, .int .i64 t1.1, .int .i64 t2.1, .int .i64 0, .int .i64 0, .int .i64 0, .nils, .int .i64 0, .int .i64 0, .nils]
      rw [if_pos hne]
      change CT _ _ _ = some ⟨.int .i64 (endC (rdRE (⟨k, t1.1, t2.1, zEn, 0, 0, []⟩ : Rc) t2.2)), _, _⟩ at EN
      generalize endC (rdRE (⟨k, t1.1, t2.1, zEn, 0, 0, []⟩ : Rc) t2.2) = e at *
      have hq : (e != 0) = true := by simp [hne]
      have hz := tz K5 _ p5 e
      refine ⟨.nils, .nils, ⟨rfl, rfl⟩, ⟨rfl, rfl⟩, ?_⟩
      unfold Rc.cells zR zEn
      refine callT_of rfl tab_record_Decode ?_
      simp (maxSteps := 4000000) only [↓set16, ↓sl16, zaa, zab, zac, zad, zz0, zz1, zz2, zz3, zz4, zae, zaf, zag, zah, zai, zaj, zak, zal, zam, zan, zao, zap, zaq, zar, zas, zat, zau, zav, zaw, zax, zay, zaz, zba, zbb, zbc, zbd, zbe, zbf, zbg, zbh, zbi, zbj, zbk, zbl, zbm, zbn, zbo, zbp, zbq, zbr, zbs, zbt, zbu, zbv, zbw, zbx, zby, zbz, zca, zcb, zcc, zcd, zce, zcf, zcg, zch, zci, zcj, zck, zcl, zcm, zcn, ne_eq, zco, zcp, zcq, zcr, zcs, List.replicate, zct, zcu, zcv, zcw, zcx, zcy, zcz, zda, zdb, zdc, zdd, zde, zdf, zdg, zdh, zdi, killT, delta, tak, ev, ad, taks, evs, nL, getH, pack, arith, callD, Nat.reduceAdd, Nat.reduceSub, Nat.reduceMul, Nat.reduceLeDiff, Nat.reduceEqDiff, Nat.reduceBEq, Nat.reduceBNe, Nat.reduceLT, Nat.reduceDiv, Int.reduceNeg, Int.reduceLT, Int.reduceLE, Int.reduceEq, Int.reduceNe, Int.reduceAdd, Int.reduceSub, Int.reduceMul, Int.reduceToNat, Int.reduceBEq, Int.reduceBNe, fillP, fillE, okE, okW, bound, elS, srcS, Fin, finish, ress, resOf, one, keeps, ↓reduceIte, Dl.ap, Dl.slots, okD, isLp, zeros, reduceCtorEq, zdj, zdk, tf_record_Decode, jn_record_Decode_2, jn_record_Decode_1, q1, q3, O, C1, hZ, hKl, O1, g0, s0, g2, z2, dd, l10, lsl, lts_i, T1, nb, Bool.not_true, Bool.false_or, Bool.or_false, CK, show ((1 : Int) != 0) = true from rfl, F1, EN, hq, hz]
    · have hc' := hc
      try simp only [zEn] at hc'
      rw [hc', ckE_t] at CK
      have es : rdRE (⟨k, t1.1, t2.1, zEn, 0, 0, []⟩ : Rc) t2.2 = t2.2 := by unfold rdRE; rw [hc, if_pos rfl]
      rw [es]
      have EN := p2.endE [.int .i64 k, .int .i64 t1.1, .int .i64 t2.1, .int .i64 0, .int .i64 0, .int .i64 0, .nils, .int .i64 0, .int .i64 0, .nils]
      change CT _ _ _ = some ⟨.int .i64 (endC t2.2), _, _⟩ at EN
      by_cases h0 : endC t2.2 = 0
      · rw [if_neg (by simp [h0])]
        rw [h0] at EN
        have hv := tv K2 _ p2 k t1.1 t2.1 0 0 0 [] 0 0 []
        simp only [nb] at hv
        refine ⟨.sl .shr [], .sl .shr [], ⟨rfl, rfl⟩, ⟨rfl, rfl⟩, ?_⟩
        unfold Rc.cells
        simp only [zEn]
        refine callT_of rfl tab_record_Decode ?_
        simp (maxSteps := 4000000) only [↓set16, ↓sl16, zaa, zab, zac, zad, zz0, zz1, zz2, zz3, zz4, zae, zaf, zag, zah, zai, zaj, zak, zal, zam, zan, zao, zap, zaq, zar, zas, zat, zau, zav, zaw, zax, zay, zaz, zba, zbb, zbc, zbd, zbe, zbf, zbg, zbh, zbi, zbj, zbk, zbl, zbm, zbn, zbo, zbp, zbq, zbr, zbs, zbt, zbu, zbv, zbw, zbx, zby, zbz, zca, zcb, zcc, zcd, zce, zcf, zcg, zch, zci, zcj, zck, zcl, zcm, zcn, ne_eq, zco, zcp, zcq, zcr, zcs, List.replicate, zct, zcu, zcv, zcw, zcx, zcy, zcz, zda, zdb, zdc, zdd, zde, zdf, zdg, zdh, zdi, killT, delta, tak, ev, ad, taks, evs, nL, getH, pack, arith, callD, Nat.reduceAdd, Nat.reduceSub, Nat.reduceMul, Nat.reduceLeDiff, Nat.reduceEqDiff, Nat.reduceBEq, Nat.reduceBNe, Nat.reduceLT, Nat.reduceDiv, Int.reduceNeg, Int.reduceLT, Int.reduceLE, Int.reduceEq, Int.reduceNe, Int.reduceAdd, Int.reduceSub, Int.reduceMul, Int.reduceToNat, Int.reduceBEq, Int.reduceBNe, fillP, fillE, okE, okW, bound, elS, srcS, Fin, finish, ress, resOf, one, keeps, ↓reduceIte, Dl.ap, Dl.slots, okD, isLp, zeros, reduceCtorEq, zdj, zdk, tf_record_Decode, jn_record_Decode_2, jn_record_Decode_1, q1, q3, O, C1, hZ, hKl, O1, g0, s0, g2, z2, dd, l10, lsl, lts_i, T1, nb, Bool.not_true, Bool.false_or, Bool.or_false, CK, bne_self_eq_false, EN, hv]
      · rw [if_pos h0]
        generalize endC t2.2 = e at *
        have hq : (e != 0) = true := by simp [h0]
        have hz := tz K2 _ p2 e
        refine ⟨.nils, .nils, ⟨rfl, rfl⟩, ⟨rfl, rfl⟩, ?_⟩
        unfold Rc.cells zR zEn
        refine callT_of rfl tab_record_Decode ?_
        simp (maxSteps := 4000000) only [↓set16, ↓sl16, zaa, zab, zac, zad, zz0, zz1, zz2, zz3, zz4, zae, zaf, zag, zah, zai, zaj, zak, zal, zam, zan, zao, zap, zaq, zar, zas, zat, zau, zav, zaw, zax, zay, zaz, zba, zbb, zbc, zbd, zbe, zbf, zbg, zbh, zbi, zbj, zbk, zbl, zbm, zbn, zbo, zbp, zbq, zbr, zbs, zbt, zbu, zbv, zbw, zbx, zby, zbz, zca, zcb, zcc, zcd, zce, zcf, zcg, zch, zci, zcj, zck, zcl, zcm, zcn, ne_eq, zco, zcp, zcq, zcr, zcs, List.replicate, zct, zcu, zcv, zcw, zcx, zcy, zcz, zda, zdb, zdc, zdd, zde, zdf, zdg, zdh, zdi, killT, delta, tak, ev, ad, taks, evs, nL, getH, pack, arith, callD, Nat.reduceAdd, Nat.reduceSub, Nat.reduceMul, Nat.reduceLeDiff, Nat.reduceEqDiff, Nat.reduceBEq, Nat.reduceBNe, Nat.reduceLT, Nat.reduceDiv, Int.reduceNeg, Int.reduceLT, Int.reduceLE, Int.reduceEq, Int.reduceNe, Int.reduceAdd, Int.reduceSub, Int.reduceMul, Int.reduceToNat, Int.reduceBEq, Int.reduceBNe, fillP, fillE, okE, okW, bound, elS, srcS, Fin, finish, ress, resOf, one, keeps, ↓reduceIte, Dl.ap, Dl.slots, okD, isLp, zeros, reduceCtorEq, zdj, zdk, tf_record_Decode, jn_record_Decode_2, jn_record_Decode_1, q1, q3, O, C1, hZ, hKl, O1, g0, s0, g2, z2, dd, l10, lsl, lts_i, T1, nb, Bool.not_true, Bool.false_or, Bool.or_false, CK, bne_self_eq_false, EN, hq, hz]
  by_cases h3 : k = 3
  · have q3 : (k == 3) = true := by simp [h3]
    unfold rdBody
    rw [if_neg h1, if_neg h2, if_pos h3]
    try simp only
    have eN : (⟨k, 0, 0, zEn, 0, 0, []⟩ : Rc).numT (H.length + 1) = .nils := by unfold Rc.numT; simp only; rw [if_neg (by omega)]
    rw [eN] at O1
    have T1 := take_0 (i := H.length) (H := K0' ++ [[.int .i64 k, .int .i64 0, .int .i64 0, .int .i64 0, .int .i64 0, .int .i64 0, .nils, .int .i64 0, .int .i64 0, .nils]]) _ rfl
    obtain ⟨K2', V, p2', hV, R1⟩ := (P1.join [.int .i64 k, .int .i64 0, .int .i64 0, .int .i64 0, .int .i64 0, .int .i64 0, .nils, .int .i64 0, .int .i64 0, .nils]).readE
    obtain ⟨K2, rfl, p2⟩ := p2'.split P1.lt
    have hdl : (rdEn s).1.dt.length ≤ 9223372036854775807 := rdEn_len s
    generalize rdEn s = te at *
    obtain ⟨⟨x1, x2, x3, dt⟩, s'⟩ := te
    simp only at p2 hV R1 hdl
    unfold En.tvw at R1
    have hxl : ([] : List Int).length ≤ 9223372036854775807 := by simp
    try simp only
    have g2 : ∀ E, dead E = false → Go.T.live (K2 ++ [E]) (H.length + 1) = some E := fun E hE => live_end (by rw [p2.length, hZl]) hE
    have z2 : ∀ E E', (K2 ++ [E]).set (H.length + 1) E' = K2 ++ [E'] := fun E E' => set_endn (by rw [p2.length, hZl])
    have l4 : ∀ n (g : Tag) a b c l, TV.lts n [.int .i64 a, .int .i64 b, .int .i64 c, .sl g (bl l)] = true := fun n g a b c l => by simp [TV.lts, TV.lt, bl_lts]
    have l4n : ∀ n a b c, TV.lts n [.int .i64 a, .int .i64 b, .int .i64 c, .nils] = true := fun n a b c => rfl
    rcases hV.or with ⟨rfl, rfl⟩ | ⟨g, rfl⟩
    · clear hV
      have CK := record_Check (H := K2 ++ [[.int .i64 k, .int .i64 0, .int .i64 0, .int .i64 x1, .int .i64 x2, .int .i64 x3, .nils, .int .i64 0, .int .i64 0, .nils]]) ⟨k, 0, 0, ⟨x1, x2, x3, []⟩, 0, 0, []⟩ hdl hxl
      rw [Rc.tv_eq] at CK
      simp only [zEn, nb] at CK
      cases hc : checkB (⟨k, 0, 0, ⟨x1, x2, x3, []⟩, 0, 0, []⟩ : Rc)
      · have hc' := hc
        try simp only [zEn] at hc'
        rw [hc', ckE_f] at CK
        have hne := endC_f (s := s') p2.er hc
        obtain ⟨K5, p5, F1⟩ := p2.failE [.int .i64 k, .int .i64 0, .int .i64 0, .int .i64 x1, .int .i64 x2, .int .i64 x3, .nils, .int .i64 0, .int .i64 0, .nils] 3 (by decide)
        have es : rdRE (⟨k, 0, 0, ⟨x1, x2, x3, []⟩, 0, 0, []⟩ : Rc) s' = if s'.2 = 0 then ([], 3) else s' := by unfold rdRE; rw [hc, if_neg (by simp)]
        rw [← es] at p5
        have EN := p5.endE [.int .i64 k, .int .i64 0, .int .i64 0, .int .i64 x1, .int .i64 x2, .int .i64 x3, .nils, .int .i64 0, .int .i64 0, .nils]
        rw [if_pos hne]
        change CT _ _ _ = some ⟨.int .i64 (endC (rdRE (⟨k, 0, 0, ⟨x1, x2, x3, []⟩, 0, 0, []⟩ : Rc) s')), _, _⟩ at EN
        generalize endC (rdRE (⟨k, 0, 0, ⟨x1, x2, x3, []⟩, 0, 0, []⟩ : Rc) s') = e at *
        have hq : (e != 0) = true := by simp [hne]
        have hz := tz K5 _ p5 e
        refine ⟨.nils, .nils, ⟨rfl, rfl⟩, ⟨rfl, rfl⟩, ?_⟩
        unfold Rc.cells zR zEn
        refine callT_of rfl tab_record_Decode ?_
        simp (maxSteps := 4000000) only [↓set16, ↓sl16, zaa, zab, zac, zad, zz0, zz1, zz2, zz3, zz4, zae, zaf, zag, zah, zai, zaj, zak, zal, zam, zan, zao, zap, zaq, zar, zas, zat, zau, zav, zaw, zax, zay, zaz, zba, zbb, zbc, zbd, zbe, zbf, zbg, zbh, zbi, zbj, zbk, zbl, zbm, zbn, zbo, zbp, zbq, zbr, zbs, zbt, zbu, zbv, zbw, zbx, zby, zbz, zca, zcb, zcc, zcd, zce, zcf, zcg, zch, zci, zcj, zck, zcl, zcm, zcn, ne_eq, zco, zcp, zcq, zcr, zcs, List.replicate, zct, zcu, zcv, zcw, zcx, zcy, zcz, zda, zdb, zdc, zdd, zde, zdf, zdg, zdh, zdi, killT, delta, tak, ev, ad, taks, evs, nL, getH, pack, arith, callD, Nat.reduceAdd, Nat.reduceSub, Nat.reduceMul, Nat.reduceLeDiff, Nat.reduceEqDiff, Nat.reduceBEq, Nat.reduceBNe, Nat.reduceLT, Nat.reduceDiv, Int.reduceNeg, Int.reduceLT, Int.reduceLE, Int.reduceEq, Int.reduceNe, Int.reduceAdd, Int.reduceSub, Int.reduceMul, Int.reduceToNat, Int.reduceBEq, Int.reduceBNe, fillP, fillE, okE, okW, bound, elS, srcS, Fin, finish, ress, resOf, one, keeps, ↓reduceIte, Dl.ap, Dl.slots, okD, isLp, zeros, reduceCtorEq, zdj, zdk, tf_record_Decode, jn_record_Decode_2, jn_record_Decode_1, q1, q3, O, C1, hZ, hKl, O1, g0, s0, g2, z2, dd, l10, lsl, lts_i, T1, R1, l4, l4n, nb, Bool.not_true, Bool.false_or, Bool.or_false, CK, show ((1 : Int) != 0) = true from rfl, F1, EN, hq, hz]
      · have hc' := hc
        try simp only [zEn] at hc'
        rw [hc', ckE_t] at CK
        have es : rdRE (⟨k, 0, 0, ⟨x1, x2, x3, []⟩, 0, 0, []⟩ : Rc) s' = s' := by unfold rdRE; rw [hc, if_pos rfl]
        rw [es]
        have EN := p2.endE [.int .i64 k, .int .i64 0, .int .i64 0, .int .i64 x1, .int .i64 x2, .int .i64 x3, .nils, .int .i64 0, .int .i64 0, .nils]
        change CT _ _ _ = some ⟨.int .i64 (endC s'), _, _⟩ at EN
        by_cases h0 : endC s' = 0
        · rw [if_neg (by simp [h0])]
          rw [h0] at EN
          have hv := tv K2 _ p2 k 0 0 x1 x2 x3 [] 0 0 []
          simp only [nb] at hv
          refine ⟨.sl .shr [], .sl .shr [], ⟨rfl, rfl⟩, ⟨rfl, rfl⟩, ?_⟩
          unfold Rc.cells
          refine callT_of rfl tab_record_Decode ?_
          simp (maxSteps := 4000000) only [↓set16, ↓sl16, zaa, zab, zac, zad, zz0, zz1, zz2, zz3, zz4, zae, zaf, zag, zah, zai, zaj, zak, zal, zam, zan, zao, zap, zaq, zar, zas, zat, zau, zav, zaw, zax, zay, zaz, zba, zbb, zbc, zbd, zbe, zbf, zbg, zbh, zbi, zbj, zbk, zbl, zbm, zbn, zbo, zbp, zbq, zbr, zbs, zbt, zbu, zbv, zbw, zbx, zby, zbz, zca, zcb, zcc, zcd, zce, zcf, zcg, zch, zci, zcj, zck, zcl, zcm, zcn, ne_eq, zco, zcp, zcq, zcr, zcs, List.replicate, zct, zcu, zcv, zcw, zcx, zcy, zcz, zda, zdb, zdc, zdd, zde, zdf, zdg, zdh, zdi, killT, delta, tak, ev, ad, taks, evs, nL, getH, pack, arith, callD, Nat.reduceAdd, Nat.reduceSub, Nat.reduceMul, Nat.reduceLeDiff, Nat.reduceEqDiff, Nat.reduceBEq, Nat.reduceBNe, Nat.reduceLT, Nat.reduceDiv, Int.reduceNeg, Int.reduceLT, Int.reduceLE, Int.reduceEq, Int.reduceNe, Int.reduceAdd, Int.reduceSub, Int.reduceMul, Int.reduceToNat, Int.reduceBEq, Int.reduceBNe, fillP, fillE, okE, okW, bound, elS, srcS, Fin, finish, ress, resOf, one, keeps, ↓reduceIte, Dl.ap, Dl.slots, okD, isLp, zeros, reduceCtorEq, zdj, zdk, tf_record_Decode, jn_record_Decode_2, jn_record_Decode_1, q1, q3, O, C1, hZ, hKl, O1, g0, s0, g2, z2, dd, l10, lsl, lts_i, T1, R1, l4, l4n, nb, Bool.not_true, Bool.false_or, Bool.or_false, CK, bne_self_eq_false, EN, hv]
        · rw [if_pos h0]
          generalize endC s' = e at *
          have hq : (e != 0) = true := by simp [h0]
          have hz := tz K2 _ p2 e
          refine ⟨.nils, .nils, ⟨rfl, rfl⟩, ⟨rfl, rfl⟩, ?_⟩
          unfold Rc.cells zR zEn
          refine callT_of rfl tab_record_Decode ?_
          simp (maxSteps := 4000000) only [↓set16, ↓sl16, zaa, zab, zac, zad, zz0, zz1, zz2, zz3, zz4, zae, zaf, zag, zah, zai, zaj, zak, zal, zam, zan, zao, zap, zaq, zar, zas, zat, zau, zav, zaw, zax, zay, zaz, zba, zbb, zbc, zbd, zbe, zbf, zbg, zbh, zbi, zbj, zbk, zbl, zbm, zbn, zbo, zbp, zbq, zbr, zbs, zbt, zbu, zbv, zbw, zbx, zby, zbz, zca, zcb, zcc, zcd, zce, zcf, zcg, zch, zci, zcj, zck, zcl, zcm, zcn, ne_eq, zco, zcp, zcq, zcr, zcs, List.replicate, zct, zcu, zcv, zcw, zcx, zcy, zcz, zda, zdb, zdc, zdd, zde, zdf, zdg, zdh, zdi, killT, delta, tak, ev, ad, taks, evs, nL, getH, pack, arith, callD, Nat.reduceAdd, Nat.reduceSub, Nat.reduceMul, Nat.reduceLeDiff, Nat.reduceEqDiff, Nat.reduceBEq, Nat.reduceBNe, Nat.reduceLT, Nat.reduceDiv, Int.reduceNeg, Int.reduceLT, Int.reduceLE, Int.reduceEq, Int.reduceNe, Int.reduceAdd, Int.reduceSub, Int.reduceMul, Int.reduceToNat, Int.reduceBEq, Int.reduceBNe, fillP, fillE, okE, okW, bound, elS, srcS, Fin, finish, ress, resOf, one, keeps, ↓reduceIte, Dl.ap, Dl.slots, okD, isLp, zeros, reduceCtorEq, zdj, zdk, tf_record_Decode, jn_record_Decode_2, jn_record_Decode_1, q1, q3, O, C1, hZ, hKl, O1, g0, s0, g2, z2, dd, l10, lsl, lts_i, T1, R1, l4, l4n, nb, Bool.not_true, Bool.false_or, Bool.or_false, CK, bne_self_eq_false, EN, hq, hz]
    · clear hV
      have CK := record_Check (H := K2 ++ [[.int .i64 k, .int .i64 0, .int .i64 0, .int .i64 x1, .int .i64 x2, .int .i64 x3, .sl g (bl dt), .int .i64 0, .int .i64 0, .nils]]) ⟨k, 0, 0, ⟨x1, x2, x3, dt⟩, 0, 0, []⟩ hdl hxl
      rw [Rc.tv_eq] at CK
      simp only [zEn, nb] at CK
      cases hc : checkB (⟨k, 0, 0, ⟨x1, x2, x3, dt⟩, 0, 0, []⟩ : Rc)
      · have hc' := hc
        try simp only [zEn] at hc'
        rw [hc', ckE_f] at CK
        have hne := endC_f (s := s') p2.er hc
        obtain ⟨K5, p5, F1⟩ := p2.failE [.int .i64 k, .int .i64 0, .int .i64 0, .int .i64 x1, .int .i64 x2, .int .i64 x3, .sl g (bl dt), .int .i64 0, .int .i64 0, .nils] 3 (by decide)
        have es : rdRE (⟨k, 0, 0, ⟨x1, x2, x3, dt⟩, 0, 0, []⟩ : Rc) s' = if s'.2 = 0 then ([], 3) else s' := by unfold rdRE; rw [hc, if_neg (by simp)]
        rw [← es] at p5
        have EN := p5.endE [.int .i64 k, .int .i64 0, .int .i64 0, .int .i64 x1, .int .i64 x2, .int .i64 x3, .sl g (bl dt), .int .i64 0, .int .i64 0, .nils]
        rw [if_pos hne]
        change CT _ _ _ = some ⟨.int .i64 (endC (rdRE (⟨k, 0, 0, ⟨x1, x2, x3, dt⟩, 0, 0, []⟩ : Rc) s')), _, _⟩ at EN
        generalize endC (rdRE (⟨k, 0, 0, ⟨x1, x2, x3, dt⟩, 0, 0, []⟩ : Rc) s') = e at *
        have hq : (e != 0) = true := by simp [hne]
        have hz := tz K5 _ p5 e
        refine ⟨.nils, .nils, ⟨rfl, rfl⟩, ⟨rfl, rfl⟩, ?_⟩
        unfold Rc.cells zR zEn
        refine callT_of rfl tab_record_Decode ?_
        simp (maxSteps := 4000000) only [↓set16, ↓sl16, zaa, zab, zac, zad, zz0, zz1, zz2, zz3, zz4, zae, zaf, zag, zah, zai, zaj, zak, zal, zam, zan, zao, zap, zaq, zar, zas, zat, zau, zav, zaw, zax, zay, zaz, zba, zbb, zbc, zbd, zbe, zbf, zbg, zbh, zbi, zbj, zbk, zbl, zbm, zbn, zbo, zbp, zbq, zbr, zbs, zbt, zbu, zbv, zbw, zbx, zby, zbz, zca, zcb, zcc, zcd, zce, zcf, zcg, zch, zci, zcj, zck, zcl, zcm, zcn, ne_eq, zco, zcp, zcq, zcr, zcs, List.replicate, zct, zcu, zcv, zcw, zcx, zcy, zcz, zda, zdb, zdc, zdd, zde, zdf, zdg, zdh, zdi, killT, delta, tak, ev, ad, taks, evs, nL, getH, pack, arith, callD, Nat.reduceAdd, Nat.reduceSub, Nat.reduceMul, Nat.reduceLeDiff, Nat.reduceEqDiff, Nat.reduceBEq, Nat.reduceBNe, Nat.reduceLT, Nat.reduceDiv, Int.reduceNeg, Int.reduceLT, Int.reduceLE, Int.reduceEq, Int.reduceNe, Int.reduceAdd, Int.reduceSub, Int.reduceMul, Int.reduceToNat, Int.reduceBEq, Int.reduceBNe, fillP, fillE, okE, okW, bound, elS, srcS, Fin, finish, ress, resOf, one, keeps, ↓reduceIte, Dl.ap, Dl.slots, okD, isLp, zeros, reduceCtorEq, zdj, zdk, tf_record_Decode, jn_record_Decode_2, jn_record_Decode_1, q1, q3, O, C1, hZ, hKl, O1, g0, s0, g2, z2, dd, l10, lsl, lts_i, T1, R1, l4, l4n, nb, Bool.not_true, Bool.false_or, Bool.or_false, CK, show ((1 : Int) != 0) = true from rfl, F1, EN, hq, hz]
      · have hc' := hc
        try simp only [zEn] at hc'
        rw [hc', ckE_t] at CK
        have es : rdRE (⟨k, 0, 0, ⟨x1, x2, x3, dt⟩, 0, 0, []⟩ : Rc) s' = s' := by unfold rdRE; rw [hc, if_pos rfl]
        rw [es]
        have EN := p2.endE [.int .i64 k, .int .i64 0, .int .i64 0, .int .i64 x1, .int .i64 x2, .int .i64 x3, .sl g (bl dt), .int .i64 0, .int .i64 0, .nils]
        change CT _ _ _ = some ⟨.int .i64 (endC s'), _, _⟩ at EN
        by_cases h0 : endC s' = 0
        · rw [if_neg (by simp [h0])]
          rw [h0] at EN
          have hv := tv K2 _ p2 k 0 0 x1 x2 x3 dt 0 0 []
          simp only [nb] at hv
          refine ⟨.sl .shr (bl dt), .sl .shr [], ⟨rfl, rfl⟩, ⟨rfl, rfl⟩, ?_⟩
          unfold Rc.cells
          refine callT_of rfl tab_record_Decode ?_
          simp (maxSteps := 4000000) only [↓set16, ↓sl16, zaa, zab, zac, zad, zz0, zz1, zz2, zz3, zz4, zae, zaf, zag, zah, zai, zaj, zak, zal, zam, zan, zao, zap, zaq, zar, zas, zat, zau, zav, zaw, zax, zay, zaz, zba, zbb, zbc, zbd, zbe, zbf, zbg, zbh, zbi, zbj, zbk, zbl, zbm, zbn, zbo, zbp, zbq, zbr, zbs, zbt, zbu, zbv, zbw, zbx, zby, zbz, zca, zcb, zcc, zcd, zce, zcf, zcg, zch, zci, zcj, zck, zcl, zcm, zcn, ne_eq, zco, zcp, zcq, zcr, zcs, List.replicate, zct, zcu, zcv, zcw, zcx, zcy, zcz, zda, zdb, zdc, zdd, zde, zdf, zdg, zdh, zdi, killT, delta, tak, ev, ad, taks, evs, nL, getH, pack, arith, callD, Nat.reduceAdd, Nat.reduceSub, Nat.reduceMul, Nat.reduceLeDiff, Nat.reduceEqDiff, Nat.reduceBEq, Nat.reduceBNe, Nat.reduceLT, Nat.reduceDiv, Int.reduceNeg, Int.reduceLT, Int.reduceLE, Int.reduceEq, Int.reduceNe, Int.reduceAdd, Int.reduceSub, Int.reduceMul, Int.reduceToNat, Int.reduceBEq, Int.reduceBNe, fillP, fillE, okE, okW, bound, elS, srcS, Fin, finish, ress, resOf, one, keeps, ↓reduceIte, Dl.ap, Dl.slots, okD, isLp, zeros, reduceCtorEq, zdj, zdk, tf_record_Decode, jn_record_Decode_2, jn_record_Decode_1, q1, q3, O, C1, hZ, hKl, O1, g0, s0, g2, z2, dd, l10, lsl, lts_i, T1, R1, l4, l4n, nb, Bool.not_true, Bool.false_or, Bool.or_false, CK, bne_self_eq_false, EN, hv]
        · rw [if_pos h0]
          generalize endC s' = e at *
          have hq : (e != 0) = true := by simp [h0]
          have hz := tz K2 _ p2 e
          refine ⟨.nils, .nils, ⟨rfl, rfl⟩, ⟨rfl, rfl⟩, ?_⟩
          unfold Rc.cells zR zEn
          refine callT_of rfl tab_record_Decode ?_
          simp (maxSteps := 4000000) only [↓set16, ↓sl16, zaa, zab, zac, zad, zz0, zz1, zz2, zz3, zz4, zae, zaf, zag, zah, zai, zaj, zak, zal, zam, zan, zao, zap, zaq, zar, zas, zat, zau, zav, zaw, zax, zay, zaz, zba, zbb, zbc, zbd, zbe, zbf, zbg, zbh, zbi, zbj, zbk, zbl, zbm, zbn, zbo, zbp, zbq, zbr, zbs, zbt, zbu, zbv, zbw, zbx, zby, zbz, zca, zcb, zcc, zcd, zce, zcf, zcg, zch, zci, zcj, zck, zcl, zcm, zcn, ne_eq, zco, zcp, zcq, zcr, zcs, List.replicate, zct, zcu, zcv, zcw, zcx, zcy, zcz, zda, zdb, zdc, zdd, zde, zdf, zdg, zdh, zdi, killT, delta, tak, ev, ad, taks, evs, nL, getH, pack, arith, callD, Nat.reduceAdd, Nat.reduceSub, Nat.reduceMul, Nat.reduceLeDiff, Nat.reduceEqDiff, Nat.reduceBEq, Nat.reduceBNe, Nat.reduceLT, Nat.reduceDiv, Int.reduceNeg, Int.reduceLT, Int.reduceLE, Int.reduceEq, Int.reduceNe, Int.reduceAdd, Int.reduceSub, Int.reduceMul, Int.reduceToNat, Int.reduceBEq, Int.reduceBNe, fillP, fillE, okE, okW, bound, elS, srcS, Fin, finish, ress, resOf, one, keeps, ↓reduceIte, Dl.ap, Dl.slots, okD, isLp, zeros, reduceCtorEq, zdj, zdk, tf_record_Decode, jn_record_Decode_2, jn_record_Decode_1, q1, q3, O, C1, hZ, hKl, O1, g0, s0, g2, z2, dd, l10, lsl, lts_i, T1, R1, l4, l4n, nb, Bool.not_true, Bool.false_or, Bool.or_false, CK, bne_self_eq_false, EN, hq, hz]
  have q3 : (k == 3) = false := by simp [h3]
  by_cases h4 : k = 4
  · unfold rdBody
    rw [if_neg h1, if_neg h2, if_neg h3, if_pos h4]
    try simp only
    have eN : (⟨k, 0, 0, zEn, 0, 0, []⟩ : Rc).numT (H.length + 1) = .sl (.own 3 true) [.agg [.ptr (H.length + 1) 7, .int .i64 1, .int .i64 2147483648]] := by unfold Rc.numT Rc.nums; simp only; rw [if_pos (.inr (.inr h4)), if_neg h1, if_neg h2, if_pos h4]; rfl
    rw [eN] at O1
    obtain ⟨K2, p2, T1⟩ := take_4 P1 k
    rw [hZl] at T1
    generalize rN 2147483648 s = t1 at *
    have hxl : ([] : List Int).length ≤ 9223372036854775807 := by simp
    try simp only
    have g2 : ∀ E, dead E = false → Go.T.live (K2 ++ [E]) (H.length + 1) = some E := fun E hE => live_end (by rw [p2.length, hZl]) hE
    have z2 : ∀ E E', (K2 ++ [E]).set (H.length + 1) E' = K2 ++ [E'] := fun E E' => set_endn (by rw [p2.length, hZl])
    have CK := record_Check (H := K2 ++ [[.int .i64 k, .int .i64 0, .int .i64 0, .int .i64 0, .int .i64 0, .int .i64 0, .nils, .int .i64 t1.1, .int .i64 0, .nils]]) ⟨k, 0, 0, zEn, t1.1, 0, []⟩ (by simp [zEn]) hxl
    rw [Rc.tv_eq] at CK
    simp only [zEn, nb] at CK
    cases hc : checkB (⟨k, 0, 0, zEn, t1.1, 0, []⟩ : Rc)
    · have hc' := hc
      try simp only [zEn] at hc'
      rw [hc', ckE_f] at CK
      have hne := endC_f (s := t1.2) p2.er hc
      obtain ⟨K5, p5, F1⟩ := p2.failE [.int .i64 k, .int .i64 0, .int .i64 0, .int .i64 0, .int .i64 0, .int .i64 0, .nils, .int .i64 t1.1, .int .i64 0, .nils] 3 (by decide)
      have es : rdRE (⟨k, 0, 0, zEn, t1.1, 0, []⟩ : Rc) t1.2 = if t1.2.2 = 0 then ([], 3) else t1.2 := by unfold rdRE; rw [hc, if_neg (by simp)]
      rw [← es] at p5
      have EN := p5.endE [.int .i64 k, .int .i64 0, .int .i64 0, .int .i64 0, .int .i64 0, .int .i64 0, .nils, .int .i64 t1.1, .int .i64 0, .nils]
      rw [if_pos hne]
      change CT _ _ _ = some ⟨.int .i64 (endC (rdRE (⟨k, 0, 0, zEn, t1.1, 0, []⟩ : Rc) t1.2)), _, _⟩ at EN
      generalize endC (rdRE (⟨k, 0, 0, zEn, t1.1, 0, []⟩ : Rc) t1.2) = e at *
      have hq : (e != 0) = true := by simp [hne]
      have hz := tz K5 _ p5 e
      refine ⟨.nils, .nils, ⟨rfl, rfl⟩, ⟨rfl, rfl⟩, ?_⟩
      unfold Rc.cells zR zEn
      refine callT_of rfl tab_record_Decode ?_
      simp (maxSteps := 4000000) only [↓set16, ↓sl16, zaa, zab, zac, zad, zz0, zz1, zz2, zz3, zz4, zae, zaf, zag, zah, zai, zaj, zak, zal, zam, zan, zao, zap, zaq, zar, zas, zat, zau, zav, zaw, zax, zay, zaz, zba, zbb, zbc, zbd, zbe, zbf, zbg, zbh, zbi, zbj, zbk, zbl, zbm, zbn, zbo, zbp, zbq, zbr, zbs, zbt, zbu, zbv, zbw, zbx, zby, zbz, zca, zcb, zcc, zcd, zce, zcf, zcg, zch, zci, zcj, zck, zcl, zcm, zcn, ne_eq, zco, zcp, zcq, zcr, zcs, List.replicate, zct, zcu, zcv, zcw, zcx, zcy, zcz, zda, zdb, zdc, zdd, zde, zdf, zdg, zdh, zdi, killT, delta, tak, ev, ad, taks, evs, nL, getH, pack, arith, callD, Nat.reduceAdd, Nat.reduceSub, Nat.reduceMul, Nat.reduceLeDiff, Nat.reduceEqDiff, Nat.reduceBEq, Nat.reduceBNe, Nat.reduceLT, Nat.reduceDiv, Int.reduceNeg, Int.reduceLT, Int.reduceLE, Int.reduceEq, Int.reduceNe, Int.reduceAdd, Int.reduceSub, Int.reduceMul, Int.reduceToNat, Int.reduceBEq, Int.reduceBNe, fillP, fillE, okE, okW, bound, elS, srcS, Fin, finish, ress, resOf, one, keeps, ↓reduceIte, Dl.ap, Dl.slots, okD, isLp, zeros, reduceCtorEq, zdj, zdk, tf_record_Decode, jn_record_Decode_2, jn_record_Decode_1, q1, q3, O, C1, hZ, hKl, O1, g0, s0, g2, z2, dd, l10, lsl, lts_i, T1, nb, Bool.not_true, Bool.false_or, Bool.or_false, CK, show ((1 : Int) != 0) = true from rfl, F1, EN, hq, hz]
    · have hc' := hc
      try simp only [zEn] at hc'
      rw [hc', ckE_t] at CK
      have es : rdRE (⟨k, 0, 0, zEn, t1.1, 0, []⟩ : Rc) t1.2 = t1.2 := by unfold rdRE; rw [hc, if_pos rfl]
      rw [es]
      have EN := p2.endE [.int .i64 k, .int .i64 0, .int .i64 0, .int .i64 0, .int .i64 0, .int .i64 0, .nils, .int .i64 t1.1, .int .i64 0, .nils]
      change CT _ _ _ = some ⟨.int .i64 (endC t1.2), _, _⟩ at EN
      by_cases h0 : endC t1.2 = 0
      · rw [if_neg (by simp [h0])]
        rw [h0] at EN
        have hv := tv K2 _ p2 k 0 0 0 0 0 [] t1.1 0 []
        simp only [nb] at hv
        refine ⟨.sl .shr [], .sl .shr [], ⟨rfl, rfl⟩, ⟨rfl, rfl⟩, ?_⟩
        unfold Rc.cells
        simp only [zEn]
        refine callT_of rfl tab_record_Decode ?_
        simp (maxSteps := 4000000) only [↓set16, ↓sl16, zaa, zab, zac, zad, zz0, zz1, zz2, zz3, zz4, zae, zaf, zag, zah, zai, zaj, zak, zal, zam, zan, zao, zap, zaq, zar, zas, zat, zau, zav, zaw, zax, zay, zaz, zba, zbb, zbc, zbd, zbe, zbf, zbg, zbh, zbi, zbj, zbk, zbl, zbm, zbn, zbo, zbp, zbq, zbr, zbs, zbt, zbu, zbv, zbw, zbx, zby, zbz, zca, zcb, zcc, zcd, zce, zcf, zcg, zch, zci, zcj, zck, zcl, zcm, zcn, ne_eq, zco, zcp, zcq, zcr, zcs, List.replicate, zct, zcu, zcv, zcw, zcx, zcy, zcz, zda, zdb, zdc, zdd, zde, zdf, zdg, zdh, zdi, killT, delta, tak, ev, ad, taks, evs, nL, getH, pack, arith, callD, Nat.reduceAdd, Nat.reduceSub, Nat.reduceMul, Nat.reduceLeDiff, Nat.reduceEqDiff, Nat.reduceBEq, Nat.reduceBNe, Nat.reduceLT, Nat.reduceDiv, Int.reduceNeg, Int.reduceLT, Int.reduceLE, Int.reduceEq, Int.reduceNe, Int.reduceAdd, Int.reduceSub, Int.reduceMul, Int.reduceToNat, Int.reduceBEq, Int.reduceBNe, fillP, fillE, okE, okW, bound, elS, srcS, Fin, finish, ress, resOf, one, keeps, ↓reduceIte, Dl.ap, Dl.slots, okD, isLp, zeros, reduceCtorEq, zdj, zdk, tf_record_Decode, jn_record_Decode_2, jn_record_Decode_1, q1, q3, O, C1, hZ, hKl, O1, g0, s0, g2, z2, dd, l10, lsl, lts_i, T1, nb, Bool.not_true, Bool.false_or, Bool.or_false, CK, bne_self_eq_false, EN, hv]
      · rw [if_pos h0]
        generalize endC t1.2 = e at *
        have hq : (e != 0) = true := by simp [h0]
        have hz := tz K2 _ p2 e
        refine ⟨.nils, .nils, ⟨rfl, rfl⟩, ⟨rfl, rfl⟩, ?_⟩
        unfold Rc.cells zR zEn
        refine callT_of rfl tab_record_Decode ?_
        simp (maxSteps := 4000000) only [↓set16, ↓sl16, zaa, zab, zac, zad, zz0, zz1, zz2, zz3, zz4, zae, zaf, zag, zah, zai, zaj, zak, zal, zam, zan, zao, zap, zaq, zar, zas, zat, zau, zav, zaw, zax, zay, zaz, zba, zbb, zbc, zbd, zbe, zbf, zbg, zbh, zbi, zbj, zbk, zbl, zbm, zbn, zbo, zbp, zbq, zbr, zbs, zbt, zbu, zbv, zbw, zbx, zby, zbz, zca, zcb, zcc, zcd, zce, zcf, zcg, zch, zci, zcj, zck, zcl, zcm, zcn, ne_eq, zco, zcp, zcq, zcr, zcs, List.replicate, zct, zcu, zcv, zcw, zcx, zcy, zcz, zda, zdb, zdc, zdd, zde, zdf, zdg, zdh, zdi, killT, delta, tak, ev, ad, taks, evs, nL, getH, pack, arith, callD, Nat.reduceAdd, Nat.reduceSub, Nat.reduceMul, Nat.reduceLeDiff, Nat.reduceEqDiff, Nat.reduceBEq, Nat.reduceBNe, Nat.reduceLT, Nat.reduceDiv, Int.reduceNeg, Int.reduceLT, Int.reduceLE, Int.reduceEq, Int.reduceNe, Int.reduceAdd, Int.reduceSub, Int.reduceMul, Int.reduceToNat, Int.reduceBEq, Int.reduceBNe, fillP, fillE, okE, okW, bound, elS, srcS, Fin, finish, ress, resOf, one, keeps, ↓reduceIte, Dl.ap, Dl.slots, okD, isLp, zeros, reduceCtorEq, zdj, zdk, tf_record_Decode, jn_record_Decode_2, jn_record_Decode_1, q1, q3, O, C1, hZ, hKl, O1, g0, s0, g2, z2, dd, l10, lsl, lts_i, T1, nb, Bool.not_true, Bool.false_or, Bool.or_false, CK, bne_self_eq_false, EN, hq, hz]
  unfold rdBody
  rw [if_neg h1, if_neg h2, if_neg h3, if_neg h4]
  try simp only
  have eN : (⟨k, 0, 0, zEn, 0, 0, []⟩ : Rc).numT (H.length + 1) = .nils := by unfold Rc.numT; simp only; rw [if_neg (by omega)]
  rw [eN] at O1
  have T1 := take_0 (i := H.length) (H := K0' ++ [[.int .i64 k, .int .i64 0, .int .i64 0, .int .i64 0, .int .i64 0, .int .i64 0, .nils, .int .i64 0, .int .i64 0, .nils]]) _ rfl
  obtain ⟨K2, hK2⟩ : ∃ K, K0' = K := ⟨_, rfl⟩
  subst hK2
  have p2 := P1
  have hxl : ([] : List Int).length ≤ 9223372036854775807 := by simp
  try simp only
  have g2 : ∀ E, dead E = false → Go.T.live (K0' ++ [E]) (H.length + 1) = some E := fun E hE => live_end (by rw [p2.length, hZl]) hE
  have z2 : ∀ E E', (K0' ++ [E]).set (H.length + 1) E' = K0' ++ [E'] := fun E E' => set_endn (by rw [p2.length, hZl])
  have CK := record_Check (H := K0' ++ [[.int .i64 k, .int .i64 0, .int .i64 0, .int .i64 0, .int .i64 0, .int .i64 0, .nils, .int .i64 0, .int .i64 0, .nils]]) ⟨k, 0, 0, zEn, 0, 0, []⟩ (by simp [zEn]) hxl
  rw [Rc.tv_eq] at CK
  simp only [zEn, nb] at CK
  cases hc : checkB (⟨k, 0, 0, zEn, 0, 0, []⟩ : Rc)
  · have hc' := hc
    try simp only [zEn] at hc'
    rw [hc', ckE_f] at CK
    have hne := endC_f (s := s) p2.er hc
    obtain ⟨K5, p5, F1⟩ := p2.failE [.int .i64 k, .int .i64 0, .int .i64 0, .int .i64 0, .int .i64 0, .int .i64 0, .nils, .int .i64 0, .int .i64 0, .nils] 3 (by decide)
    have es : rdRE (⟨k, 0, 0, zEn, 0, 0, []⟩ : Rc) s = if s.2 = 0 then ([], 3) else s := by unfold rdRE; rw [hc, if_neg (by simp)]
    rw [← es] at p5
    have EN := p5.endE [.int .i64 k, .int .i64 0, .int .i64 0, .int .i64 0, .int .i64 0, .int .i64 0, .nils, .int .i64 0, .int .i64 0, .nils]
    rw [if_pos hne]
    change CT _ _ _ = some ⟨.int .i64 (endC (rdRE (⟨k, 0, 0, zEn, 0, 0, []⟩ : Rc) s)), _, _⟩ at EN
    generalize endC (rdRE (⟨k, 0, 0, zEn, 0, 0, []⟩ : Rc) s) = e at *
    have hq : (e != 0) = true := by simp [hne]
    have hz := tz K5 _ p5 e
    refine ⟨.nils, .nils, ⟨rfl, rfl⟩, ⟨rfl, rfl⟩, ?_⟩
    unfold Rc.cells zR zEn
    refine callT_of rfl tab_record_Decode ?_
    simp (maxSteps := 4000000) only [↓set16, ↓sl16, zaa, zab, zac, zad, zz0, zz1, zz2, zz3, zz4, zae, zaf, zag, zah, zai, zaj, zak, zal, zam, zan, zao, zap, zaq, zar, zas, zat, zau, zav, zaw, zax, zay, zaz, zba, zbb, zbc, zbd, zbe, zbf, zbg, zbh, zbi, zbj, zbk, zbl, zbm, zbn, zbo, zbp, zbq, zbr, zbs, zbt, zbu, zbv, zbw, zbx, zby, zbz, zca, zcb, zcc, zcd, zce, zcf, zcg, zch, zci, zcj, zck, zcl, zcm, zcn, ne_eq, zco, zcp, zcq, zcr, zcs, List.replicate, zct, zcu, zcv, zcw, zcx, zcy, zcz, zda, zdb, zdc, zdd, zde, zdf, zdg, zdh, zdi, killT, delta, tak, ev, ad, taks, evs, nL, getH, pack, arith, callD, Nat.reduceAdd, Nat.reduceSub, Nat.reduceMul, Nat.reduceLeDiff, Nat.reduceEqDiff, Nat.reduceBEq, Nat.reduceBNe, Nat.reduceLT, Nat.reduceDiv, Int.reduceNeg, Int.reduceLT, Int.reduceLE, Int.reduceEq, Int.reduceNe, Int.reduceAdd, Int.reduceSub, Int.reduceMul, Int.reduceToNat, Int.reduceBEq, Int.reduceBNe, fillP, fillE, okE, okW, bound, elS, srcS, Fin, finish, ress, resOf, one, keeps, ↓reduceIte, Dl.ap, Dl.slots, okD, isLp, zeros, reduceCtorEq, zdj, zdk, tf_record_Decode, jn_record_Decode_2, jn_record_Decode_1, q1, q3, O, C1, hZ, hKl, O1, g0, s0, g2, z2, dd, l10, lsl, lts_i, T1, nb, Bool.not_true, Bool.false_or, Bool.or_false, CK, show ((1 : Int) != 0) = true from rfl, F1, EN, hq, hz]
  · have hc' := hc
    try simp only [zEn] at hc'
    rw [hc', ckE_t] at CK
    have es : rdRE (⟨k, 0, 0, zEn, 0, 0, []⟩ : Rc) s = s := by unfold rdRE; rw [hc, if_pos rfl]
    rw [es]
    have EN := p2.endE [.int .i64 k, .int .i64 0, .int .i64 0, .int .i64 0, .int .i64 0, .int .i64 0, .nils, .int .i64 0, .int .i64 0, .nils]
    change CT _ _ _ = some ⟨.int .i64 (endC s), _, _⟩ at EN
    by_cases h0 : endC s = 0
    · rw [if_neg (by simp [h0])]
      rw [h0] at EN
      have hv := tv K0' _ p2 k 0 0 0 0 0 [] 0 0 []
      simp only [nb] at hv
      refine ⟨.sl .shr [], .sl .shr [], ⟨rfl, rfl⟩, ⟨rfl, rfl⟩, ?_⟩
      unfold Rc.cells
      simp only [zEn]
      refine callT_of rfl tab_record_Decode ?_
      simp (maxSteps := 4000000) only [↓set16, ↓sl16, zaa, zab, zac, zad, zz0, zz1, zz2, zz3, zz4, zae, zaf, zag, zah, zai, zaj, zak, zal, zam, zan, zao, zap, zaq, zar, zas, zat, zau, zav, zaw, zax, zay, zaz, zba, zbb, zbc, zbd, zbe, zbf, zbg, zbh, zbi, zbj, zbk, zbl, zbm, zbn, zbo, zbp, zbq, zbr, zbs, zbt, zbu, zbv, zbw, zbx, zby, zbz, zca, zcb, zcc, zcd, zce, zcf, zcg, zch, zci, zcj, zck, zcl, zcm, zcn, ne_eq, zco, zcp, zcq, zcr, zcs, List.replicate, zct, zcu, zcv, zcw, zcx, zcy, zcz, zda, zdb, zdc, zdd, zde, zdf, zdg, zdh, zdi, killT, delta, tak, ev, ad, taks, evs, nL, getH, pack, arith, callD, Nat.reduceAdd, Nat.reduceSub, Nat.reduceMul, Nat.reduceLeDiff, Nat.reduceEqDiff, Nat.reduceBEq, Nat.reduceBNe, Nat.reduceLT, Nat.reduceDiv, Int.reduceNeg, Int.reduceLT, Int.reduceLE, Int.reduceEq, Int.reduceNe, Int.reduceAdd, Int.reduceSub, Int.reduceMul, Int.reduceToNat, Int.reduceBEq, Int.reduceBNe, fillP, fillE, okE, okW, bound, elS, srcS, Fin, finish, ress, resOf, one, keeps, ↓reduceIte, Dl.ap, Dl.slots, okD, isLp, zeros, reduceCtorEq, zdj, zdk, tf_record_Decode, jn_record_Decode_2, jn_record_Decode_1, q1, q3, O, C1, hZ, hKl, O1, g0, s0, g2, z2, dd, l10, lsl, lts_i, T1, nb, Bool.not_true, Bool.false_or, Bool.or_false, CK, bne_self_eq_false, EN, hv]
    · rw [if_pos h0]
      generalize endC s = e at *
      have hq : (e != 0) = true := by simp [h0]
      have hz := tz K0' _ p2 e
      refine ⟨.nils, .nils, ⟨rfl, rfl⟩, ⟨rfl, rfl⟩, ?_⟩
      unfold Rc.cells zR zEn
      refine callT_of rfl tab_record_Decode ?_
      simp (maxSteps := 4000000) only [↓set16, ↓sl16, zaa, zab, zac, zad, zz0, zz1, zz2, zz3, zz4, zae, zaf, zag, zah, zai, zaj, zak, zal, zam, zan, zao, zap, zaq, zar, zas, zat, zau, zav, zaw, zax, zay, zaz, zba, zbb, zbc, zbd, zbe, zbf, zbg, zbh, zbi, zbj, zbk, zbl, zbm, zbn, zbo, zbp, zbq, zbr, zbs, zbt, zbu, zbv, zbw, zbx, zby, zbz, zca, zcb, zcc, zcd, zce, zcf, zcg, zch, zci, zcj, zck, zcl, zcm, zcn, ne_eq, zco, zcp, zcq, zcr, zcs, List.replicate, zct, zcu, zcv, zcw, zcx, zcy, zcz, zda, zdb, zdc, zdd, zde, zdf, zdg, zdh, zdi, killT, delta, tak, ev, ad, taks, evs, nL, getH, pack, arith, callD, Nat.reduceAdd, Nat.reduceSub, Nat.reduceMul, Nat.reduceLeDiff, Nat.reduceEqDiff, Nat.reduceBEq, Nat.reduceBNe, Nat.reduceLT, Nat.reduceDiv, Int.reduceNeg, Int.reduceLT, Int.reduceLE, Int.reduceEq, Int.reduceNe, Int.reduceAdd, Int.reduceSub, Int.reduceMul, Int.reduceToNat, Int.reduceBEq, Int.reduceBNe, fillP, fillE, okE, okW, bound, elS, srcS, Fin, finish, ress, resOf, one, keeps, ↓reduceIte, Dl.ap, Dl.slots, okD, isLp, zeros, reduceCtorEq, zdj, zdk, tf_record_Decode, jn_record_Decode_2, jn_record_Decode_1, q1, q3, O, C1, hZ, hKl, O1, g0, s0, g2, z2, dd, l10, lsl, lts_i, T1, nb, Bool.not_true, Bool.false_or, Bool.or_false, CK, bne_self_eq_false, EN, hq, hz]
end Go.T
