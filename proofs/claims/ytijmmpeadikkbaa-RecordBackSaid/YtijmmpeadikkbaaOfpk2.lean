/- What the document's writers answer. -/
import Derived.Test.YtijmmpeadikkbaaOfpk1
set_option linter.unusedVariables false
set_option linter.unusedSimpArgs false
set_option maxRecDepth 10000
set_option maxHeartbeats 1000000
namespace Go.T
attribute [local irreducible] Run Back RS Ap
variable {H : Heap}
theorem trim_row {h : Heap} {b i n sz : Nat} {ag k : Bool} (hi : b ≤ i) : trim false b ⟨.asl ag sz i 0 n, h, k⟩ = ⟨.asl ag sz i 0 n, h, k⟩ := by
  have : ¬ i < b := by omega
  simp [trim, TV.lt, this]
theorem flat_i (k : IntKind) (n : Int) : flat [.int k n] = [.int k n] := rfl
theorem ref02_copied (l : List Int) (hl : l.length ≤ 20000000) : CT n_ref02_copied [.sl .shr (bl l)] H = some ⟨.sl (.own 1 false) (bl l), H, false⟩ := by
  have okw := bl_okW l
  have r1 : l.length ≤ roomB := by unfold roomB; omega
  refine callT_of rfl tab_ref02_copied ?_
  simp (maxSteps := 4000000) only [↓set16, ↓sl16, zaa, zab, zac, zad, zz0, zz1, zz2, zz3, zz4, zae, zaf, zag, zah, zai, zaj, zak, zal, zam, zan, zao, zap, zaq, zar, zas, zat, zau, zav, zaw, zax, zay, zaz, zba, zbb, zbc, zbd, zbe, zbf, zbg, zbh, zbi, zbj, zbk, zbl, zbm, zbn, zbo, zbp, zbq, zbr, zbs, zbt, zbu, zbv, zbw, zbx, zby, zbz, zca, zcb, zcc, zcd, zce, zcf, zcg, zch, zci, zcj, zck, zcl, zcm, zcn, ne_eq, zco, zcp, zcq, zcr, zcs, List.replicate, zct, zcu, zcv, zcw, zcx, zcy, zcz, zda, zdb, zdc, zdd, zde, zdf, zdg, zdh, zdi, killT, delta, tak, ev, ad, taks, evs, nL, getH, pack, arith, callD, Nat.reduceAdd, Nat.reduceSub, Nat.reduceMul, Nat.reduceLeDiff, Nat.reduceEqDiff, Nat.reduceBEq, Nat.reduceBNe, Nat.reduceLT, Nat.reduceDiv, Int.reduceNeg, Int.reduceLT, Int.reduceLE, Int.reduceEq, Int.reduceNe, Int.reduceAdd, Int.reduceSub, Int.reduceMul, Int.reduceToNat, Int.reduceBEq, Int.reduceBNe, fillP, fillE, okE, okW, bound, elS, srcS, Fin, finish, ress, resOf, one, keeps, ↓reduceIte, Dl.ap, Dl.slots, okD, isLp, zeros, reduceCtorEq, zdj, zdk, tf_ref02_copied, okw, bl_len, r1]
theorem ref02_groups (f : Nat) : ∀ n : Int, n < 128 ^ (f + 1) → I64 n → f ≤ 100 → ∃ D : Heap, CT n_ref02_groups [.int .i64 n] H = some ⟨.asl false 1 (H.length + D.length) 0 (grp f (max n 0)).length, H ++ (D ++ [bl (grp f (max n 0))]), false⟩ := by
  have base : ∀ n : Int, n < 128 → I64 n → CT n_ref02_groups [.int .i64 n] H = some ⟨.asl false 1 H.length 0 1, H ++ [bl [max n 0]], false⟩ := by
    intro n hn hi
    unfold I64 at hi
    have hmx : (if (0 : Int) > n then (0 : Int) else n) = max n 0 := by split <;> omega
    have hw : IntKind.u8.wrap (max n 0) = max n 0 := IntWalk.u8_in _ (by omega)
    have hb : bl [max n 0] = [TV.int .u8 (max n 0)] := rfl
    have ht := trim_row (h := H ++ [[TV.int .u8 (max n 0)]]) (b := H.length) (i := H.length) (n := 1) (sz := 1) (ag := false) (k := false) (Nat.le_refl _)
    rw [hb]
    refine callT_of rfl tab_ref02_groups ?_
    simp (maxSteps := 4000000) only [↓set16, ↓sl16, zaa, zab, zac, zad, zz0, zz1, zz2, zz3, zz4, zae, zaf, zag, zah, zai, zaj, zak, zal, zam, zan, zao, zap, zaq, zar, zas, zat, zau, zav, zaw, zax, zay, zaz, zba, zbb, zbc, zbd, zbe, zbf, zbg, zbh, zbi, zbj, zbk, zbl, zbm, zbn, zbo, zbp, zbq, zbr, zbs, zbt, zbu, zbv, zbw, zbx, zby, zbz, zca, zcb, zcc, zcd, zce, zcf, zcg, zch, zci, zcj, zck, zcl, zcm, zcn, ne_eq, zco, zcp, zcq, zcr, zcs, List.replicate, zct, zcu, zcv, zcw, zcx, zcy, zcz, zda, zdb, zdc, zdd, zde, zdf, zdg, zdh, zdi, killT, delta, tak, ev, ad, taks, evs, nL, getH, pack, arith, callD, Nat.reduceAdd, Nat.reduceSub, Nat.reduceMul, Nat.reduceLeDiff, Nat.reduceEqDiff, Nat.reduceBEq, Nat.reduceBNe, Nat.reduceLT, Nat.reduceDiv, Int.reduceNeg, Int.reduceLT, Int.reduceLE, Int.reduceEq, Int.reduceNe, Int.reduceAdd, Int.reduceSub, Int.reduceMul, Int.reduceToNat, Int.reduceBEq, Int.reduceBNe, fillP, fillE, okE, okW, bound, elS, srcS, Fin, finish, ress, resOf, one, keeps, ↓reduceIte, Dl.ap, Dl.slots, okD, isLp, zeros, reduceCtorEq, zdj, zdk, tf_ref02_groups, hn, hmx, hw, flat_i, ht]
  induction f with
  | zero =>
    intro n hn hi hf
    exact ⟨[], base n (by omega) hi⟩
  | succ f ih =>
    intro n hn hi hf
    by_cases hx : n < 128
    · have hg : grp (f + 1) (max n 0) = [max n 0] := by unfold grp; rw [if_pos (by omega)]
      rw [hg]
      exact ⟨[], base n hx hi⟩
    · unfold I64 at hi
      have e1 : max n 0 = n := by omega
      have e2 : max (n / 128) 0 = n / 128 := by omega
      have hp : n / 128 < 128 ^ (f + 1) := by
        apply Int.ediv_lt_of_lt_mul (by omega)
        rw [← Int.pow_succ]; exact hn
      obtain ⟨D, hD⟩ := ih (n / 128) hp (by unfold I64; omega) (by omega)
      rw [e2] at hD
      have hg : grp (f + 1) n = grp f (n / 128) ++ [n % 128] := by show (if n < 128 then [n] else _) = _; rw [if_neg hx]
      rw [e1, hg]
      have hgl := grp_len f (n / 128)
      generalize grp f (n / 128) = g at *
      have h1 : IntKind.i64.wrap (n.tdiv 128) = n / 128 := by rw [Int.tdiv_eq_ediv_of_nonneg (by omega)]; exact IntWalk.i64_in _ (by omega)
      have h2 : n.tmod 128 = n % 128 := Int.tmod_eq_emod_of_nonneg (by omega)
      have h3 : IntKind.u8.wrap (n % 128) = n % 128 := IntWalk.u8_in _ (by omega)
      have hG : H ++ (D ++ [bl g]) = (H ++ D) ++ [bl g] := by simp
      have hl : live (H ++ (D ++ [bl g])) (H.length + D.length) = some (bl g) := by rw [hG, ← List.length_append]; exact live_app_eq (bl_dead g)
      have hs : (H ++ (D ++ [bl g])).set (H.length + D.length) [.tup []] = H ++ (D ++ [[.tup []]]) := by rw [hG, ← List.length_append, set_end]; simp
      have hlen : (H ++ (D ++ [bl g])).length = H.length + (D ++ [[TV.tup []]]).length := by simp
      have okw := bl_okW g
      have r1 : g.length + 1 ≤ roomB := by unfold roomB; omega
      have r2 : g.length ≤ g.length := Nat.le_refl _
      have r3 : ¬ g.length + 1 ≤ g.length := by omega
      have et : (bl g).take g.length = bl g := by rw [← bl_len g, List.take_length]
      have eb : bl (g ++ [n % 128]) = bl g ++ [.int .u8 (n % 128)] := bl_app g [n % 128]
      have el : (g ++ [n % 128]).length = g.length + 1 := by simp
      refine ⟨D ++ [[.tup []]], ?_⟩
      rw [eb, el]
      have ht := trim_row (h := H ++ ((D ++ [[.tup []]]) ++ [bl g ++ [.int .u8 (n % 128)]])) (b := H.length) (i := H.length + (D ++ [[TV.tup []]]).length) (n := g.length + 1) (sz := 1) (ag := false) (k := false) (by omega)
      generalize hGG : H ++ (D ++ [bl g]) = G at *
      have hq : H ++ (D ++ [[TV.tup []]]) ++ [bl g ++ [.int .u8 (n % 128)]] = H ++ ((D ++ [[.tup []]]) ++ [bl g ++ [.int .u8 (n % 128)]]) := by simp
      generalize hDD : D ++ [[TV.tup []]] = D2 at *
      refine callT_of rfl tab_ref02_groups ?_
      simp (maxSteps := 4000000) only [↓set16, ↓sl16, zaa, zab, zac, zad, zz0, zz1, zz2, zz3, zz4, zae, zaf, zag, zah, zai, zaj, zak, zal, zam, zan, zao, zap, zaq, zar, zas, zat, zau, zav, zaw, zax, zay, zaz, zba, zbb, zbc, zbd, zbe, zbf, zbg, zbh, zbi, zbj, zbk, zbl, zbm, zbn, zbo, zbp, zbq, zbr, zbs, zbt, zbu, zbv, zbw, zbx, zby, zbz, zca, zcb, zcc, zcd, zce, zcf, zcg, zch, zci, zcj, zck, zcl, zcm, zcn, ne_eq, zco, zcp, zcq, zcr, zcs, List.replicate, zct, zcu, zcv, zcw, zcx, zcy, zcz, zda, zdb, zdc, zdd, zde, zdf, zdg, zdh, zdi, killT, delta, tak, ev, ad, taks, evs, nL, getH, pack, arith, callD, Nat.reduceAdd, Nat.reduceSub, Nat.reduceMul, Nat.reduceLeDiff, Nat.reduceEqDiff, Nat.reduceBEq, Nat.reduceBNe, Nat.reduceLT, Nat.reduceDiv, Int.reduceNeg, Int.reduceLT, Int.reduceLE, Int.reduceEq, Int.reduceNe, Int.reduceAdd, Int.reduceSub, Int.reduceMul, Int.reduceToNat, Int.reduceBEq, Int.reduceBNe, fillP, fillE, okE, okW, bound, elS, srcS, Fin, finish, ress, resOf, one, keeps, ↓reduceIte, Dl.ap, Dl.slots, okD, isLp, zeros, reduceCtorEq, zdj, zdk, tf_ref02_groups, hx, h1, h2, h3, hD, hl, hs, hlen, okw, bl_len, r1, r2, r3, et, bl_shr0, flat_i, hq, ht, show ¬ (1 : Nat) = 0 by decide]
/-- The groups, of which the first have their bit. -/
def hiK (i : Nat) (g : List Int) : List Int := (g.take i).map (fun x => (x + 128) % 256) ++ g.drop i
theorem hiK_len (i : Nat) (g : List Int) : (hiK i g).length = g.length := by simp [hiK]; omega
theorem hiK_get {i : Nat} {g : List Int} {x : Int} (h : g[i]? = some x) : (hiK i g)[i]? = some x := by
  have hlt := (List.getElem?_eq_some_iff.1 h).1
  unfold hiK
  rw [List.getElem?_append_right (by simp; omega)]
  simp [List.getElem?_drop, Nat.min_eq_left (Nat.le_of_lt hlt), h]
theorem hiK_set {i : Nat} {g : List Int} {x : Int} (h : g[i]? = some x) : (hiK i g).set i ((x + 128) % 256) = hiK (i + 1) g := by
  obtain ⟨hlt, rfl⟩ := List.getElem?_eq_some_iff.1 h
  unfold hiK
  rw [List.set_append_right _ _ (by simp; omega), List.take_succ_eq_append_getElem hlt, List.map_append, List.append_assoc]
  congr 1
  simp only [List.length_map, List.length_take, Nat.min_eq_left (Nat.le_of_lt hlt), Nat.sub_self]
  rw [List.drop_eq_getElem_cons hlt]
  rfl
theorem hiK_end {g : List Int} (h : g ≠ []) : hiK (g.length - 1) g = hi g := by
  rcases List.eq_nil_or_concat g with e | ⟨g', x, e⟩
  · exact absurd e h
  · subst e
    rw [List.concat_eq_append, hi_snoc]
    unfold hiK
    simp
theorem splice_set (l : List TV) (i : Nat) (v : TV) (h : i < l.length) : splice l i [v] = l.set i v := by
  unfold splice
  rw [List.length_cons, List.length_nil, List.set_eq_take_append_cons_drop, if_pos h]; rfl
theorem lts_i (n : Nat) (k : IntKind) (x : Int) : TV.lts n [.int k x] = true := rfl
theorem rnum_loop (l g : List Int) (D : Heap) (hl : l.length ≤ 20000000) (hgl : 1 ≤ g.length ∧ g.length ≤ 9) (m : Nat) : ∀ i : Nat, m + i + 1 = g.length →
    Run ⟨CT, true, [TRes.tmp 4], ⟨.sl (.own 1 false) (bl (l ++ hi g)), H, false⟩⟩ [Fr.blk 0, Fr.seq ((TC.reg [{ d := some 24, op := .mv true (.s 0), g := none }, { d := some 25, op := .call 0 n_ref02_copied [(false, .s 24)], g := none }, { d := some 26, op := .mv false (.s 5), g := none }, { d := some 27, op := .app true 1 1 (.s 25) (.s 26), g := none }, { d := some 4, op := .mv true (.s 27), g := none }] []).seq TC.ret)] (.loop lp_ref02_Num_1)
      ⟨(.sl .shr (bl l) :: TV.junk :: TV.tup [] :: TV.tup [] :: TV.junk :: .asl false 1 (H.length + D.length) 0 g.length :: .int .i64 i :: TV.junk :: TV.junk :: TV.junk :: TV.junk :: TV.junk :: TV.junk :: TV.junk :: TV.junk :: TV.junk :: TV.junk :: TV.junk :: TV.junk :: TV.junk :: TV.junk :: TV.junk :: TV.junk :: TV.junk :: TV.tup [] :: TV.tup [] :: TV.tup [] :: TV.tup [] :: []), H ++ (D ++ [bl (hiK i g)]), H.length, false⟩ := by
  have hlive : ∀ i, live (H ++ (D ++ [bl (hiK i g)])) (H.length + D.length) = some (bl (hiK i g)) := fun i => by
    rw [← List.append_assoc, ← List.length_append]; exact live_app_eq (bl_dead _)
  have hset : ∀ i j, (H ++ (D ++ [bl (hiK i g)])).set (H.length + D.length) (bl (hiK j g)) = H ++ (D ++ [bl (hiK j g)]) := fun i j => by
    rw [← List.append_assoc, ← List.length_append, set_end, List.append_assoc]
  induction m with
  | zero =>
    intro i hi
    have e : i = g.length - 1 := by omega
    have hne : g ≠ [] := by intro h; rw [h] at hgl; simp at hgl
    have hw : IntKind.i64.wrap ((i : Int) + 1) = ((i + 1 : Nat) : Int) := IntWalk.i64_in _ (by omega)
    have hq : ¬ ((i + 1 : Nat) : Int) < (g.length : Nat) := by omega
    have hL := hlive i
    have hC := ref02_copied (H := H ++ (D ++ [bl (hiK i g)])) l hl
    have hK : hiK i g = T.hi g := by rw [e]; exact hiK_end hne
    rw [hK] at hL hC ⊢
    have hcut : cut (bl (T.hi g)) 0 g.length = some (bl (T.hi g)) := by
      unfold cut
      rw [if_pos (by rw [bl_len, hi_len]; omega), List.drop_zero, ← hi_len g, ← bl_len (T.hi g), List.take_length]
    have hrg : regroup false 1 g.length (bl (T.hi g)) = bl (T.hi g) := by
      rw [regroup_take _ _ (by rw [bl_len, hi_len]; omega), ← hi_len g, ← bl_len (T.hi g), List.take_length]
    have okw := bl_okW l
    have okw2 := bl_okW (T.hi g)
    have r1 : l.length + g.length ≤ roomB := by unfold roomB; omega
    have hlg := hi_len g
    have ht := trim_in (fz := true) (v := .sl (.own 1 false) (bl l ++ bl (T.hi g))) (h := H) (x := D ++ [bl (T.hi g)]) rfl (by rw [← bl_app]; exact bl_lts _ _)
    rw [bl_app]
    generalize hGG : H ++ (D ++ [bl (T.hi g)]) = G at *
    rw [Run_loop]
    simp (maxSteps := 4000000) only [↓set16, ↓sl16, zaa, zab, zac, zad, zz0, zz1, zz2, zz3, zz4, zae, zaf, zag, zah, zai, zaj, zak, zal, zam, zan, zao, zap, zaq, zar, zas, zat, zau, zav, zaw, zax, zay, zaz, zba, zbb, zbc, zbd, zbe, zbf, zbg, zbh, zbi, zbj, zbk, zbl, zbm, zbn, zbo, zbp, zbq, zbr, zbs, zbt, zbu, zbv, zbw, zbx, zby, zbz, zca, zcb, zcc, zcd, zce, zcf, zcg, zch, zci, zcj, zck, zcl, zcm, zcn, ne_eq, zco, zcp, zcq, zcr, zcs, List.replicate, zct, zcu, zcv, zcw, zcx, zcy, zcz, zda, zdb, zdc, zdd, zde, zdf, zdg, zdh, zdi, killT, delta, tak, ev, ad, taks, evs, nL, getH, pack, arith, callD, Nat.reduceAdd, Nat.reduceSub, Nat.reduceMul, Nat.reduceLeDiff, Nat.reduceEqDiff, Nat.reduceBEq, Nat.reduceBNe, Nat.reduceLT, Nat.reduceDiv, Int.reduceNeg, Int.reduceLT, Int.reduceLE, Int.reduceEq, Int.reduceNe, Int.reduceAdd, Int.reduceSub, Int.reduceMul, Int.reduceToNat, Int.reduceBEq, Int.reduceBNe, fillP, fillE, okE, okW, bound, elS, srcS, Fin, finish, ress, resOf, one, keeps, ↓reduceIte, Dl.ap, Dl.slots, okD, isLp, zeros, reduceCtorEq, zdj, zdk, lp_ref02_Num_1, hw, hq, hC, hL, hcut, hrg, bl_shr0, bl_elt, okw, okw2, bl_len, hlg, r1, ht, show (0 : Nat) < 1 by decide]
  | succ m ih =>
    intro i hi
    have hgo := ih (i + 1) (by omega)
    have hlt : i < g.length := by omega
    have hx : g[i]? = some g[i] := List.getElem?_eq_getElem hlt
    have hw : IntKind.i64.wrap ((i : Int) + 1) = ((i + 1 : Nat) : Int) := IntWalk.i64_in _ (by omega)
    have hq : ((i + 1 : Nat) : Int) < (g.length : Nat) := by omega
    have hi0 : (0 : Int) ≤ i := by omega
    have hi1 : (i : Int) < (g.length : Nat) := by omega
    have hL := hlive i
    have hcut : cut (bl (hiK i g)) i 1 = some [.int .u8 g[i]] := by
      have h1 := bl_get (hiK_get hx)
      unfold cut
      rw [if_pos (by rw [bl_len, hiK_len]; omega)]
      have h2 := (List.getElem?_eq_some_iff.1 h1)
      rw [List.drop_eq_getElem_cons h2.1, h2.2]; rfl
    have hsp : splice (bl (hiK i g)) i [.int .u8 ((g[i] + 128) % 256)] = bl (hiK (i + 1) g) := by
      rw [splice_set _ _ _ (by rw [bl_len, hiK_len]; omega), ← hiK_set hx]
      unfold bl
      rw [List.map_set]
    have hS := hset i (i + 1)
    have hn1 : i + 1 ≤ (bl (hiK i g)).length := by rw [bl_len, hiK_len]; omega
    generalize hGG : H ++ (D ++ [bl (hiK i g)]) = G at *
    rw [Run_loop]
    simp (maxSteps := 4000000) only [↓set16, ↓sl16, zaa, zab, zac, zad, zz0, zz1, zz2, zz3, zz4, zae, zaf, zag, zah, zai, zaj, zak, zal, zam, zan, zao, zap, zaq, zar, zas, zat, zau, zav, zaw, zax, zay, zaz, zba, zbb, zbc, zbd, zbe, zbf, zbg, zbh, zbi, zbj, zbk, zbl, zbm, zbn, zbo, zbp, zbq, zbr, zbs, zbt, zbu, zbv, zbw, zbx, zby, zbz, zca, zcb, zcc, zcd, zce, zcf, zcg, zch, zci, zcj, zck, zcl, zcm, zcn, ne_eq, zco, zcp, zcq, zcr, zcs, List.replicate, zct, zcu, zcv, zcw, zcx, zcy, zcz, zda, zdb, zdc, zdd, zde, zdf, zdg, zdh, zdi, killT, delta, tak, ev, ad, taks, evs, nL, getH, pack, arith, callD, Nat.reduceAdd, Nat.reduceSub, Nat.reduceMul, Nat.reduceLeDiff, Nat.reduceEqDiff, Nat.reduceBEq, Nat.reduceBNe, Nat.reduceLT, Nat.reduceDiv, Int.reduceNeg, Int.reduceLT, Int.reduceLE, Int.reduceEq, Int.reduceNe, Int.reduceAdd, Int.reduceSub, Int.reduceMul, Int.reduceToNat, Int.reduceBEq, Int.reduceBNe, fillP, fillE, okE, okW, bound, elS, srcS, Fin, finish, ress, resOf, one, keeps, ↓reduceIte, Dl.ap, Dl.slots, okD, isLp, zeros, reduceCtorEq, zdj, zdk, lp_ref02_Num_1, hw, hq, hi0, hi1, hL, hcut, IntKind.wrap_u8, hn1, hsp, hS, Int.toNat_natCast, lts_i]
    exact hgo
theorem ref02_Num (l : List Int) (n : Int) (hn : I64 n) (hl : l.length ≤ 4000000) : CT n_ref02_Num [.sl .shr (bl l), .int .i64 n] H = some ⟨.sl (.own 1 false) (bl (l ++ numB n)), H, false⟩ := by
  unfold I64 at hn
  obtain ⟨D, hD⟩ := ref02_groups (H := H) 8 n (by omega) (by unfold I64; omega) (by omega)
  have hgl := grp_len 8 (max n 0)
  have hgo := rnum_loop (H := H) l (grp 8 (max n 0)) D (by omega) (by omega) ((grp 8 (max n 0)).length - 1) 0 (by omega)
  have e : hiK 0 (grp 8 (max n 0)) = grp 8 (max n 0) := by simp [hiK]
  rw [e] at hgo
  refine callT_of rfl tab_ref02_Num ?_
  simp (maxSteps := 4000000) only [↓set16, ↓sl16, zaa, zab, zac, zad, zz0, zz1, zz2, zz3, zz4, zae, zaf, zag, zah, zai, zaj, zak, zal, zam, zan, zao, zap, zaq, zar, zas, zat, zau, zav, zaw, zax, zay, zaz, zba, zbb, zbc, zbd, zbe, zbf, zbg, zbh, zbi, zbj, zbk, zbl, zbm, zbn, zbo, zbp, zbq, zbr, zbs, zbt, zbu, zbv, zbw, zbx, zby, zbz, zca, zcb, zcc, zcd, zce, zcf, zcg, zch, zci, zcj, zck, zcl, zcm, zcn, ne_eq, zco, zcp, zcq, zcr, zcs, List.replicate, zct, zcu, zcv, zcw, zcx, zcy, zcz, zda, zdb, zdc, zdd, zde, zdf, zdg, zdh, zdi, killT, delta, tak, ev, ad, taks, evs, nL, getH, pack, arith, callD, Nat.reduceAdd, Nat.reduceSub, Nat.reduceMul, Nat.reduceLeDiff, Nat.reduceEqDiff, Nat.reduceBEq, Nat.reduceBNe, Nat.reduceLT, Nat.reduceDiv, Int.reduceNeg, Int.reduceLT, Int.reduceLE, Int.reduceEq, Int.reduceNe, Int.reduceAdd, Int.reduceSub, Int.reduceMul, Int.reduceToNat, Int.reduceBEq, Int.reduceBNe, fillP, fillE, okE, okW, bound, elS, srcS, Fin, finish, ress, resOf, one, keeps, ↓reduceIte, Dl.ap, Dl.slots, okD, isLp, zeros, reduceCtorEq, zdj, zdk, tf_ref02_Num, hD]
  exact hgo
theorem ref02_Text (l : List Int) (s : ByteArray) (hl : l.length ≤ 4000000) (hs : s.size ≤ 4000000) : CT n_ref02_Text [.sl .shr (bl l), .str s] H = some ⟨.sl (.own 1 false) (bl (l ++ numB s.size ++ strB s)), H, false⟩ := by
  have hN := ref02_Num (H := H) l s.size (by unfold I64; omega) hl
  have hb := numB_len s.size
  have okw := bl_okW (l ++ numB s.size)
  have okw2 := bl_okW (strB s)
  have r1 : (l ++ numB s.size).length + (strB s).length ≤ roomB := by rw [List.length_append, strB_len]; unfold roomB; omega
  rw [bl_app (l ++ numB s.size)]
  generalize l ++ numB s.size = L at *
  refine callT_of rfl tab_ref02_Text ?_
  simp (maxSteps := 4000000) only [↓set16, ↓sl16, zaa, zab, zac, zad, zz0, zz1, zz2, zz3, zz4, zae, zaf, zag, zah, zai, zaj, zak, zal, zam, zan, zao, zap, zaq, zar, zas, zat, zau, zav, zaw, zax, zay, zaz, zba, zbb, zbc, zbd, zbe, zbf, zbg, zbh, zbi, zbj, zbk, zbl, zbm, zbn, zbo, zbp, zbq, zbr, zbs, zbt, zbu, zbv, zbw, zbx, zby, zbz, zca, zcb, zcc, zcd, zce, zcf, zcg, zch, zci, zcj, zck, zcl, zcm, zcn, ne_eq, zco, zcp, zcq, zcr, zcs, List.replicate, zct, zcu, zcv, zcw, zcx, zcy, zcz, zda, zdb, zdc, zdd, zde, zdf, zdg, zdh, zdi, killT, delta, tak, ev, ad, taks, evs, nL, getH, pack, arith, callD, Nat.reduceAdd, Nat.reduceSub, Nat.reduceMul, Nat.reduceLeDiff, Nat.reduceEqDiff, Nat.reduceBEq, Nat.reduceBNe, Nat.reduceLT, Nat.reduceDiv, Int.reduceNeg, Int.reduceLT, Int.reduceLE, Int.reduceEq, Int.reduceNe, Int.reduceAdd, Int.reduceSub, Int.reduceMul, Int.reduceToNat, Int.reduceBEq, Int.reduceBNe, fillP, fillE, okE, okW, bound, elS, srcS, Fin, finish, ress, resOf, one, keeps, ↓reduceIte, Dl.ap, Dl.slots, okD, isLp, zeros, reduceCtorEq, zdj, zdk, tf_ref02_Text, hN, ofBytes_bl, okw, okw2, bl_len, r1]
end Go.T
