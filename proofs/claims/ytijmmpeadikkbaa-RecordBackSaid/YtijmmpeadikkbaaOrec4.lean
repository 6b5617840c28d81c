/- Any entry stands behind any bytes, and is read, as the document says. -/
import Derived.Test.YtijmmpeadikkbaaOrec3
set_option linter.unusedVariables false
set_option linter.unusedSimpArgs false
set_option maxRecDepth 10000
set_option pp.deepTerms true
set_option pp.maxSteps 1000000
set_option maxHeartbeats 2000000
namespace Go.T
attribute [local irreducible] Run Back RS Ap
variable {H H0 : Heap} {i j : Nat} {s : RSt}
theorem PR.of_live {c : TV} {b : List Int} {e : Int} (hl : Go.T.live H i = some [c, .int .i64 e, .bool true]) (hc : c.shr0 = .sl .shr (bl b)) (hby : ∀ x ∈ b, 0 ≤ x ∧ x ≤ 255) (hb : b.length ≤ 4000000) (he : e ≠ 0 → b = []) : PR H i (b, e) H :=
  ⟨⟨c, (set_same hl).symm, hc⟩, live_lt hl, hby, hb, he⟩
theorem RR.of_live {c : TV} {b : List Int} {e : Int} (hl : Go.T.live H i = some [c, .int .i64 e]) (hc : c.shr0 = .sl .shr (bl b)) (hby : ∀ x ∈ b, 0 ≤ x ∧ x ≤ 255) (hb : b.length ≤ 4000000) (he : e ≠ 0 → b = []) : RR H i (b, e) H :=
  ⟨⟨c, (set_same hl).symm, hc⟩, live_lt hl, hby, hb, he⟩
theorem PR.other (h : PR H0 i s H) (hij : i ≠ j) : Go.T.live H j = Go.T.live H0 j := by
  obtain ⟨c, rfl, _⟩ := h.ex; exact live_set_ne hij
theorem RR.other (h : RR H0 i s H) (hij : i ≠ j) : Go.T.live H j = Go.T.live H0 j := by
  obtain ⟨c, rfl, _⟩ := h.ex; exact live_set_ne hij
theorem strB_by (s : ByteArray) : ∀ x ∈ strB s, 0 ≤ x ∧ x ≤ 255 := by
  intro x hx
  unfold strB at hx
  obtain ⟨b, _, rfl⟩ := List.mem_map.1 hx
  have := b.toNat_lt
  omega
theorem rdEn_by (s : RSt) : ∀ x ∈ (rdEn s).1.dt, 0 ≤ x ∧ x ≤ 255 := by
  unfold rdEn
  simp only
  split
  · intro x hx; cases hx
  · exact strB_by _
theorem sameE_refl (a : En) : sameE a a = true := by simp [sameE]
theorem awake11_ok : CT n_law11_awake [] [] = some ⟨.bool true, [], false⟩ := (callT_iff tab ext).2 ⟨60, by kernel_rfl⟩
theorem putE_len (b : List Int) (e : En) : (putE b e).length ≤ b.length + 36 + e.dt.length := by
  unfold putE
  split
  · have h1 := putAll_len [e.ix, e.tm, e.kd] b
    have h2 := numB_len e.dt.length
    simp only [List.length_cons, List.length_nil] at h1
    rw [List.length_append, List.length_append]; omega
  · omega
theorem entries (e f : En) (he : e.ok) (hf : f.ok) (b : List Int) (hby : ∀ x ∈ b, 0 ≤ x ∧ x ≤ 255) (hbl : b.length ≤ 9223372036854775807) : CT n_law11_RecordEntries [e.tv, f.tv, .sl .shr (bl b)] [] = some ⟨.bool true, [], false⟩ := by
  by_cases h1 : (5000 : Int) < e.dt.length
  · rw [En.tv_eq, En.tv_eq]
    refine callT_of rfl tab_law11_RecordEntries ?_
    simp (maxSteps := 4000000) only [↓set16, ↓sl16, zaa, zab, zac, zad, zz0, zz1, zz2, zz3, zz4, zae, zaf, zag, zah, zai, zaj, zak, zal, zam, zan, zao, zap, zaq, zar, zas, zat, zau, zav, zaw, zax, zay, zaz, zba, zbb, zbc, zbd, zbe, zbf, zbg, zbh, zbi, zbj, zbk, zbl, zbm, zbn, zbo, zbp, zbq, zbr, zbs, zbt, zbu, zbv, zbw, zbx, zby, zbz, zca, zcb, zcc, zcd, zce, zcf, zcg, zch, zci, zcj, zck, zcl, zcm, zcn, ne_eq, zco, zcp, zcq, zcr, zcs, List.replicate, zct, zcu, zcv, zcw, zcx, zcy, zcz, zda, zdb, zdc, zdd, zde, zdf, zdg, zdh, zdi, killT, delta, tak, ev, ad, taks, evs, nL, getH, pack, arith, callD, Nat.reduceAdd, Nat.reduceSub, Nat.reduceMul, Nat.reduceLeDiff, Nat.reduceEqDiff, Nat.reduceBEq, Nat.reduceBNe, Nat.reduceLT, Nat.reduceDiv, Int.reduceNeg, Int.reduceLT, Int.reduceLE, Int.reduceEq, Int.reduceNe, Int.reduceAdd, Int.reduceSub, Int.reduceMul, Int.reduceToNat, Int.reduceBEq, Int.reduceBNe, fillP, fillE, okE, okW, bound, elS, srcS, Fin, finish, ress, resOf, one, keeps, ↓reduceIte, Dl.ap, Dl.slots, okD, isLp, zeros, reduceCtorEq, zdj, zdk, tf_law11_RecordEntries, bl_len, gt_iff_lt, h1, awake11_ok]
  by_cases h2 : (5000 : Int) < f.dt.length
  · rw [En.tv_eq, En.tv_eq]
    refine callT_of rfl tab_law11_RecordEntries ?_
    simp (maxSteps := 4000000) only [↓set16, ↓sl16, zaa, zab, zac, zad, zz0, zz1, zz2, zz3, zz4, zae, zaf, zag, zah, zai, zaj, zak, zal, zam, zan, zao, zap, zaq, zar, zas, zat, zau, zav, zaw, zax, zay, zaz, zba, zbb, zbc, zbd, zbe, zbf, zbg, zbh, zbi, zbj, zbk, zbl, zbm, zbn, zbo, zbp, zbq, zbr, zbs, zbt, zbu, zbv, zbw, zbx, zby, zbz, zca, zcb, zcc, zcd, zce, zcf, zcg, zch, zci, zcj, zck, zcl, zcm, zcn, ne_eq, zco, zcp, zcq, zcr, zcs, List.replicate, zct, zcu, zcv, zcw, zcx, zcy, zcz, zda, zdb, zdc, zdd, zde, zdf, zdg, zdh, zdi, killT, delta, tak, ev, ad, taks, evs, nL, getH, pack, arith, callD, Nat.reduceAdd, Nat.reduceSub, Nat.reduceMul, Nat.reduceLeDiff, Nat.reduceEqDiff, Nat.reduceBEq, Nat.reduceBNe, Nat.reduceLT, Nat.reduceDiv, Int.reduceNeg, Int.reduceLT, Int.reduceLE, Int.reduceEq, Int.reduceNe, Int.reduceAdd, Int.reduceSub, Int.reduceMul, Int.reduceToNat, Int.reduceBEq, Int.reduceBNe, fillP, fillE, okE, okW, bound, elS, srcS, Fin, finish, ress, resOf, one, keeps, ↓reduceIte, Dl.ap, Dl.slots, okD, isLp, zeros, reduceCtorEq, zdj, zdk, tf_law11_RecordEntries, bl_len, gt_iff_lt, h1, h2, awake11_ok]
  by_cases h3 : (6000 : Int) < b.length
  · rw [En.tv_eq, En.tv_eq]
    refine callT_of rfl tab_law11_RecordEntries ?_
    simp (maxSteps := 4000000) only [↓set16, ↓sl16, zaa, zab, zac, zad, zz0, zz1, zz2, zz3, zz4, zae, zaf, zag, zah, zai, zaj, zak, zal, zam, zan, zao, zap, zaq, zar, zas, zat, zau, zav, zaw, zax, zay, zaz, zba, zbb, zbc, zbd, zbe, zbf, zbg, zbh, zbi, zbj, zbk, zbl, zbm, zbn, zbo, zbp, zbq, zbr, zbs, zbt, zbu, zbv, zbw, zbx, zby, zbz, zca, zcb, zcc, zcd, zce, zcf, zcg, zch, zci, zcj, zck, zcl, zcm, zcn, ne_eq, zco, zcp, zcq, zcr, zcs, List.replicate, zct, zcu, zcv, zcw, zcx, zcy, zcz, zda, zdb, zdc, zdd, zde, zdf, zdg, zdh, zdi, killT, delta, tak, ev, ad, taks, evs, nL, getH, pack, arith, callD, Nat.reduceAdd, Nat.reduceSub, Nat.reduceMul, Nat.reduceLeDiff, Nat.reduceEqDiff, Nat.reduceBEq, Nat.reduceBNe, Nat.reduceLT, Nat.reduceDiv, Int.reduceNeg, Int.reduceLT, Int.reduceLE, Int.reduceEq, Int.reduceNe, Int.reduceAdd, Int.reduceSub, Int.reduceMul, Int.reduceToNat, Int.reduceBEq, Int.reduceBNe, fillP, fillE, okE, okW, bound, elS, srcS, Fin, finish, ress, resOf, one, keeps, ↓reduceIte, Dl.ap, Dl.slots, okD, isLp, zeros, reduceCtorEq, zdj, zdk, tf_law11_RecordEntries, bl_len, gt_iff_lt, h1, h2, h3, awake11_ok]
  have O1 := pack_Open (H := []) b (by omega)
  have O2 := ref02_Open (H := [] ++ [[.sl .shr (bl b), .int .i64 0, .bool true]]) b (by omega)
  simp only [List.nil_append, List.length_nil, List.length_cons, List.cons_append, Nat.zero_add] at O1 O2
  have P0 : PR [[.sl .shr (bl b), .int .i64 0, .bool true], [.sl .shr (bl b), .int .i64 0]] 0 (b, 0) [[.sl .shr (bl b), .int .i64 0, .bool true], [.sl .shr (bl b), .int .i64 0]] := PR.of_live (c := .sl .shr (bl b)) rfl rfl hby (by omega) (fun h => absurd rfl h)
  have L1 : live [[TV.sl .shr (bl b), .int .i64 0, .bool true], [.sl .shr (bl b), .int .i64 0]] 1 = some [.sl .shr (bl b), .int .i64 0] := rfl
  generalize hH2 : ([[.sl .shr (bl b), .int .i64 0, .bool true], [.sl .shr (bl b), .int .i64 0]] : Heap) = H2 at *
  obtain ⟨H3, V1, P1, W1, R1⟩ := P0.readE
  have L1' := P1.other (j := 1) (by decide)
  rw [L1] at L1'
  have Q0 : RR H3 1 (b, 0) H3 := RR.of_live (c := .sl .shr (bl b)) L1' rfl hby (by omega) (fun h => absurd rfl h)
  obtain ⟨H4, V2, Q1, W2, R2⟩ := Q0.readE
  have P2 : PR H4 0 (rdEn (b, 0)).2 H4 := by
    obtain ⟨c, hlc, hcc⟩ := P1.live
    have := Q1.other (j := 0) (by decide)
    exact PR.of_live (this.trans hlc) hcc P1.by_ P1.len P1.er
  have E1 := P2.err
  have E2 := Q1.err
  have F1 := P2.left
  have F2 := Q1.left
  have hxb := rdEn_by (b, 0)
  have S1 := ref11_SameEntry (H := H4) (rdEn (b, 0)).1 (rdEn (b, 0)).1 hxb hxb
  rw [sameE_refl] at S1
  have M1 := record_Entry (H := H4) e
  have M2 := ref11_Entry (H := H4) e
  have S2 := record_SameEntry (H := H4) e f he.len
  have S3 := ref11_SameEntry (H := H4) e f he.dt hf.dt
  obtain ⟨g1, U1⟩ := record_PutEntry (H := H4) b e he (by omega) (by omega)
  obtain ⟨g2, U2⟩ := ref11_PutEntry (H := H4) b e he (by omega) (by omega)
  have hpl := putE_len b e
  have U3 := bytes_Same (H := H4) (putE b e) (by omega)
  have a0 := W1.s
  have a1 := W1.c
  have b0 := W2.s
  have b1 := W2.c
  generalize hX1 : rdEn (b, 0) = X at *
  obtain ⟨x, sx⟩ := X
  simp only at *
  rw [En.tv_eq] at M1 M2 U1 U2
  rw [En.tv_eq, En.tv_eq] at S2 S3
  rw [En.tv_eq] at S1
  unfold En.tvw at R1 R2
  rw [En.tv_eq, En.tv_eq]
  refine callT_of rfl tab_law11_RecordEntries ?_
  simp (maxSteps := 4000000) only [↓set16, ↓sl16, zaa, zab, zac, zad, zz0, zz1, zz2, zz3, zz4, zae, zaf, zag, zah, zai, zaj, zak, zal, zam, zan, zao, zap, zaq, zar, zas, zat, zau, zav, zaw, zax, zay, zaz, zba, zbb, zbc, zbd, zbe, zbf, zbg, zbh, zbi, zbj, zbk, zbl, zbm, zbn, zbo, zbp, zbq, zbr, zbs, zbt, zbu, zbv, zbw, zbx, zby, zbz, zca, zcb, zcc, zcd, zce, zcf, zcg, zch, zci, zcj, zck, zcl, zcm, zcn, ne_eq, zco, zcp, zcq, zcr, zcs, List.replicate, zct, zcu, zcv, zcw, zcx, zcy, zcz, zda, zdb, zdc, zdd, zde, zdf, zdg, zdh, zdi, killT, delta, tak, ev, ad, taks, evs, nL, getH, pack, arith, callD, Nat.reduceAdd, Nat.reduceSub, Nat.reduceMul, Nat.reduceLeDiff, Nat.reduceEqDiff, Nat.reduceBEq, Nat.reduceBNe, Nat.reduceLT, Nat.reduceDiv, Int.reduceNeg, Int.reduceLT, Int.reduceLE, Int.reduceEq, Int.reduceNe, Int.reduceAdd, Int.reduceSub, Int.reduceMul, Int.reduceToNat, Int.reduceBEq, Int.reduceBNe, fillP, fillE, okE, okW, bound, elS, srcS, Fin, finish, ress, resOf, one, keeps, ↓reduceIte, Dl.ap, Dl.slots, okD, isLp, zeros, reduceCtorEq, zdj, zdk, tf_law11_RecordEntries, bl_len, gt_iff_lt, h1, h2, h3, O1, O2, hH2, R1, R2, a0, a1, b0, b1, M1, M2, S1, S2, S3, U1, U2, U3, E1, E2, F1, F2, BEq.rfl, awake11_ok]
end Go.T
