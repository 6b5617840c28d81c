/- What the record's functions answer: entries written and compared. -/
import Derived.Test.YtijmmpeadikkbaaOrec1
set_option linter.unusedVariables false
set_option linter.unusedSimpArgs false
set_option maxRecDepth 10000
set_option pp.deepTerms true
set_option pp.maxSteps 1000000
set_option maxHeartbeats 1000000
namespace Go.T
attribute [local irreducible] Run Back RS Ap
variable {H : Heap} {j : Nat}
def putAll (acc : List Int) (l : List Int) : List Int := l.foldl (fun b n => b ++ numB n) acc
def tg (k : Nat) : Tag := if k = 0 then .shr else .own 1 false
theorem tg_succ (k : Nat) : tg (k + 1) = .own 1 false := rfl
theorem record_put (b : List Int) (l : List Nm) (hl : ∀ x ∈ l, I64 x.n) (hm : l.length ≤ 10) (hb : b.length ≤ 3000000) (ha : NmAt H j l) : CT n_record_put [.sl .shr (bl b), .sl .shr (l.map (Nm.tv j))] H = some ⟨.sl .shr (bl (putAll b (l.map Nm.n))), H, false⟩ := by
  obtain ⟨cs, hlv, hc⟩ := ha
  refine callT_of rfl tab_record_put ?_
  simp (maxSteps := 4000000) only [↓set16, ↓sl16, zaa, zab, zac, zad, zz0, zz1, zz2, zz3, zz4, zae, zaf, zag, zah, zai, zaj, zak, zal, zam, zan, zao, zap, zaq, zar, zas, zat, zau, zav, zaw, zax, zay, zaz, zba, zbb, zbc, zbd, zbe, zbf, zbg, zbh, zbi, zbj, zbk, zbl, zbm, zbn, zbo, zbp, zbq, zbr, zbs, zbt, zbu, zbv, zbw, zbx, zby, zbz, zca, zcb, zcc, zcd, zce, zcf, zcg, zch, zci, zcj, zck, zcl, zcm, zcn, ne_eq, zco, zcp, zcq, zcr, zcs, List.replicate, zct, zcu, zcv, zcw, zcx, zcy, zcz, zda, zdb, zdc, zdd, zde, zdf, zdg, zdh, zdi, killT, delta, tak, ev, ad, taks, evs, nL, getH, pack, arith, callD, Nat.reduceAdd, Nat.reduceSub, Nat.reduceMul, Nat.reduceLeDiff, Nat.reduceEqDiff, Nat.reduceBEq, Nat.reduceBNe, Nat.reduceLT, Nat.reduceDiv, Int.reduceNeg, Int.reduceLT, Int.reduceLE, Int.reduceEq, Int.reduceNe, Int.reduceAdd, Int.reduceSub, Int.reduceMul, Int.reduceToNat, Int.reduceBEq, Int.reduceBNe, fillP, fillE, okE, okW, bound, elS, srcS, Fin, finish, ress, resOf, one, keeps, ↓reduceIte, Dl.ap, Dl.slots, okD, isLp, zeros, reduceCtorEq, zdj, zdk, tf_record_put, List.length_map]
  refine loopI l (by omega) (fun acc suf => ⟨.sl .shr (bl (putAll acc (suf.map Nm.n))), H, false⟩) (fun k acc => ⟨(.sl (tg k) (bl acc) :: TV.junk :: TV.tup [] :: TV.tup [] :: TV.junk :: TV.tup [] :: TV.junk :: .sl .shr (l.map (Nm.tv j)) :: .int .i64 l.length :: .int .i64 k :: TV.junk :: TV.junk :: TV.junk :: TV.junk :: TV.junk :: TV.junk :: TV.junk :: TV.junk :: TV.junk :: TV.junk :: TV.tup [] :: []), H, H.length, false⟩) (fun k acc => acc.length ≤ b.length + 9 * k) ?_ ?_ b (Nat.le_refl _)
  · intro acc hi hq
    have e : putAll acc ([].map Nm.n) = acc := rfl
    rw [e, Run_loop]
    simp (maxSteps := 4000000) only [↓set16, ↓sl16, zaa, zab, zac, zad, zz0, zz1, zz2, zz3, zz4, zae, zaf, zag, zah, zai, zaj, zak, zal, zam, zan, zao, zap, zaq, zar, zas, zat, zau, zav, zaw, zax, zay, zaz, zba, zbb, zbc, zbd, zbe, zbf, zbg, zbh, zbi, zbj, zbk, zbl, zbm, zbn, zbo, zbp, zbq, zbr, zbs, zbt, zbu, zbv, zbw, zbx, zby, zbz, zca, zcb, zcc, zcd, zce, zcf, zcg, zch, zci, zcj, zck, zcl, zcm, zcn, ne_eq, zco, zcp, zcq, zcr, zcs, List.replicate, zct, zcu, zcv, zcw, zcx, zcy, zcz, zda, zdb, zdc, zdd, zde, zdf, zdg, zdh, zdi, killT, delta, tak, ev, ad, taks, evs, nL, getH, pack, arith, callD, Nat.reduceAdd, Nat.reduceSub, Nat.reduceMul, Nat.reduceLeDiff, Nat.reduceEqDiff, Nat.reduceBEq, Nat.reduceBNe, Nat.reduceLT, Nat.reduceDiv, Int.reduceNeg, Int.reduceLT, Int.reduceLE, Int.reduceEq, Int.reduceNe, Int.reduceAdd, Int.reduceSub, Int.reduceMul, Int.reduceToNat, Int.reduceBEq, Int.reduceBNe, fillP, fillE, okE, okW, bound, elS, srcS, Fin, finish, ress, resOf, one, keeps, ↓reduceIte, Dl.ap, Dl.slots, okD, isLp, zeros, reduceCtorEq, zdj, zdk, lp_record_put_1, hq]
  · intro k x acc rest hi hx hk hk0 hw ih
    have hg := map_get (f := Nm.tv j) hx
    rw [Nm.tv_eq] at hg
    have hn := hl x (List.mem_of_getElem? hx)
    have hcx := hc x (List.mem_of_getElem? hx)
    have hk' : k < l.length := by omega
    have hP := pack_Num (H := H) acc x.n hn (by omega)
    have hb2 := numB_len x.n
    have hgo := ih (acc ++ numB x.n) (by rw [List.length_append]; omega)
    rw [tg_succ] at hgo
    have e : putAll acc ((x :: rest).map Nm.n) = putAll (acc ++ numB x.n) (rest.map Nm.n) := rfl
    rw [e, Run_loop]
    simp (maxSteps := 4000000) only [↓set16, ↓sl16, zaa, zab, zac, zad, zz0, zz1, zz2, zz3, zz4, zae, zaf, zag, zah, zai, zaj, zak, zal, zam, zan, zao, zap, zaq, zar, zas, zat, zau, zav, zaw, zax, zay, zaz, zba, zbb, zbc, zbd, zbe, zbf, zbg, zbh, zbi, zbj, zbk, zbl, zbm, zbn, zbo, zbp, zbq, zbr, zbs, zbt, zbu, zbv, zbw, zbx, zby, zbz, zca, zcb, zcc, zcd, zce, zcf, zcg, zch, zci, zcj, zck, zcl, zcm, zcn, ne_eq, zco, zcp, zcq, zcr, zcs, List.replicate, zct, zcu, zcv, zcw, zcx, zcy, zcz, zda, zdb, zdc, zdd, zde, zdf, zdg, zdh, zdi, killT, delta, tak, ev, ad, taks, evs, nL, getH, pack, arith, callD, Nat.reduceAdd, Nat.reduceSub, Nat.reduceMul, Nat.reduceLeDiff, Nat.reduceEqDiff, Nat.reduceBEq, Nat.reduceBNe, Nat.reduceLT, Nat.reduceDiv, Int.reduceNeg, Int.reduceLT, Int.reduceLE, Int.reduceEq, Int.reduceNe, Int.reduceAdd, Int.reduceSub, Int.reduceMul, Int.reduceToNat, Int.reduceBEq, Int.reduceBNe, fillP, fillE, okE, okW, bound, elS, srcS, Fin, finish, ress, resOf, one, keeps, ↓reduceIte, Dl.ap, Dl.slots, okD, isLp, zeros, reduceCtorEq, zdj, zdk, lp_record_put_1, hk, hk0, hg, Int.toNat_natCast, hlv, hcx, hP, hw]
    exact hgo
theorem bytes_Clone (l : List Int) (hm : l.length ≤ 4000000) : ∃ r, CT n_slices_Clone_byte_byte [.sl .shr (bl l)] H = some r ∧ trim true H.length r = ⟨if l.length = 0 then .nils else .sl (.own 1 false) (bl l), H, false⟩ := by
  have h1 : l.length ≤ roomB := by unfold roomB; omega
  by_cases h0 : l.length = 0
  · refine ⟨_, callT_ext (c := cloneC false 1 1) rfl (r := ⟨.nils, H, false⟩) ?_, ?_⟩
    · simp only [cloneC, elS, bl_okW', bl_len, Nat.mul_one, h1, z_ao_sl, true_and, and_true, if_true, and_self, h0, Nat.zero_le]
    · rw [if_pos h0]; exact trim_refl
  · refine ⟨_, callT_ext (c := cloneC false 1 1) rfl (r := ⟨.asl false 1 H.length 0 l.length, H ++ [bl l], false⟩) ?_, ?_⟩
    · simp only [cloneC, elS, bl_okW', bl_len, Nat.mul_one, h1, z_ao_sl, bl_flat, true_and, and_true, if_true, and_self, h0, if_false]
    · have := bl_trim (H := H) l []
      rw [List.append_nil] at this
      rw [this, if_neg h0]
theorem strB_strOf (l : List Int) (h : ∀ x ∈ l, 0 ≤ x ∧ x ≤ 255) : strB (strOf l) = l := by
  unfold strB strOf bl
  simp only [List.map_map]
  conv => rhs; rw [← List.map_id l]
  apply List.map_congr_left
  intro x hx
  have := h x hx
  simp [byteOf]
  omega
theorem strOf_size (l : List Int) : (strOf l).size = l.length := by
  show (((bl l).map byteOf).toArray).size = _
  simp [bl_len]
theorem strOf_inj {a b : List Int} (ha : ∀ x ∈ a, 0 ≤ x ∧ x ≤ 255) (hb : ∀ x ∈ b, 0 ≤ x ∧ x ≤ 255) : (strOf a = strOf b) = (a = b) := by
  apply propext
  constructor
  · intro h
    rw [← strB_strOf a ha, ← strB_strOf b hb, h]
  · rintro rfl; rfl
theorem eq_zipB (a b : List Int) (hl : a.length = b.length) : decide (a = b) = (a.zip b).all fun p => decide (p.1 = p.2) := by
  rw [Bool.eq_iff_iff]
  simp only [decide_eq_true_eq, List.all_eq_true]
  constructor
  · rintro rfl p hp
    obtain ⟨i, hi⟩ := List.getElem?_of_mem hp
    rw [List.getElem?_zip_eq_some] at hi
    exact Option.some.inj (hi.1.symm.trans hi.2)
  · intro h
    apply List.ext_getElem hl
    intro i h1 h2
    have := h (a[i], b[i]) (by
      apply List.mem_of_getElem? (i := i)
      rw [List.getElem?_zip_eq_some]
      exact ⟨List.getElem?_eq_getElem h1, List.getElem?_eq_getElem h2⟩)
    exact this
theorem bytes_Equal (a b : List Int) (ha : a.length ≤ 9223372036854775807) : CT n_slices_Equal_byte_byte [.sl .shr (bl a), .sl .shr (bl b)] H = some ⟨.bool (decide (a = b)), H, false⟩ := by
  by_cases hl : a.length = b.length
  rotate_left
  · have hq : ((a.length : Int) != b.length) = true := by rw [bne_iff_ne]; omega
    have hab : ¬ a = b := by rintro rfl; exact hl rfl
    refine callT_of rfl tab_slices_Equal_byte_byte ?_
    simp (maxSteps := 4000000) only [↓set16, ↓sl16, zaa, zab, zac, zad, zz0, zz1, zz2, zz3, zz4, zae, zaf, zag, zah, zai, zaj, zak, zal, zam, zan, zao, zap, zaq, zar, zas, zat, zau, zav, zaw, zax, zay, zaz, zba, zbb, zbc, zbd, zbe, zbf, zbg, zbh, zbi, zbj, zbk, zbl, zbm, zbn, zbo, zbp, zbq, zbr, zbs, zbt, zbu, zbv, zbw, zbx, zby, zbz, zca, zcb, zcc, zcd, zce, zcf, zcg, zch, zci, zcj, zck, zcl, zcm, zcn, ne_eq, zco, zcp, zcq, zcr, zcs, List.replicate, zct, zcu, zcv, zcw, zcx, zcy, zcz, zda, zdb, zdc, zdd, zde, zdf, zdg, zdh, zdi, killT, delta, tak, ev, ad, taks, evs, nL, getH, pack, arith, callD, Nat.reduceAdd, Nat.reduceSub, Nat.reduceMul, Nat.reduceLeDiff, Nat.reduceEqDiff, Nat.reduceBEq, Nat.reduceBNe, Nat.reduceLT, Nat.reduceDiv, Int.reduceNeg, Int.reduceLT, Int.reduceLE, Int.reduceEq, Int.reduceNe, Int.reduceAdd, Int.reduceSub, Int.reduceMul, Int.reduceToNat, Int.reduceBEq, Int.reduceBNe, fillP, fillE, okE, okW, bound, elS, srcS, Fin, finish, ress, resOf, one, keeps, ↓reduceIte, Dl.ap, Dl.slots, okD, isLp, zeros, reduceCtorEq, zdj, zdk, tf_slices_Equal_byte_byte, bl_len, hq, hab]
  have hq : ((a.length : Int) != b.length) = false := by simp [hl]
  have hz : (a.zip b).length = a.length := by rw [List.length_zip, ← hl, Nat.min_self]
  rw [eq_zipB _ _ hl]
  refine callT_of rfl tab_slices_Equal_byte_byte ?_
  simp (maxSteps := 4000000) only [↓set16, ↓sl16, zaa, zab, zac, zad, zz0, zz1, zz2, zz3, zz4, zae, zaf, zag, zah, zai, zaj, zak, zal, zam, zan, zao, zap, zaq, zar, zas, zat, zau, zav, zaw, zax, zay, zaz, zba, zbb, zbc, zbd, zbe, zbf, zbg, zbh, zbi, zbj, zbk, zbl, zbm, zbn, zbo, zbp, zbq, zbr, zbs, zbt, zbu, zbv, zbw, zbx, zby, zbz, zca, zcb, zcc, zcd, zce, zcf, zcg, zch, zci, zcj, zck, zcl, zcm, zcn, ne_eq, zco, zcp, zcq, zcr, zcs, List.replicate, zct, zcu, zcv, zcw, zcx, zcy, zcz, zda, zdb, zdc, zdd, zde, zdf, zdg, zdh, zdi, killT, delta, tak, ev, ad, taks, evs, nL, getH, pack, arith, callD, Nat.reduceAdd, Nat.reduceSub, Nat.reduceMul, Nat.reduceLeDiff, Nat.reduceEqDiff, Nat.reduceBEq, Nat.reduceBNe, Nat.reduceLT, Nat.reduceDiv, Int.reduceNeg, Int.reduceLT, Int.reduceLE, Int.reduceEq, Int.reduceNe, Int.reduceAdd, Int.reduceSub, Int.reduceMul, Int.reduceToNat, Int.reduceBEq, Int.reduceBNe, fillP, fillE, okE, okW, bound, elS, srcS, Fin, finish, ress, resOf, one, keeps, ↓reduceIte, Dl.ap, Dl.slots, okD, isLp, zeros, reduceCtorEq, zdj, zdk, tf_slices_Equal_byte_byte, bl_len, hq]
  rw [← hz]
  refine loopL (a.zip b) (by omega) (fun (_ : Unit) suf => ⟨.bool (suf.all fun p => decide (p.1 = p.2)), H, false⟩) (fun k _ => ⟨(.sl .shr (bl a) :: .sl .shr (bl b) :: TV.tup [] :: TV.tup [] :: TV.junk :: TV.junk :: TV.junk :: TV.junk :: TV.junk :: TV.junk :: TV.junk :: TV.junk :: .int .i64 (a.zip b).length :: .int .i64 k :: TV.junk :: TV.junk :: TV.junk :: TV.junk :: TV.junk :: TV.junk :: TV.junk :: TV.junk :: TV.junk :: TV.junk :: TV.junk :: TV.junk :: []), H, H.length, false⟩) ?_ ?_ ()
  · intro acc hq
    rw [Run_loop]
    simp (maxSteps := 4000000) only [↓set16, ↓sl16, zaa, zab, zac, zad, zz0, zz1, zz2, zz3, zz4, zae, zaf, zag, zah, zai, zaj, zak, zal, zam, zan, zao, zap, zaq, zar, zas, zat, zau, zav, zaw, zax, zay, zaz, zba, zbb, zbc, zbd, zbe, zbf, zbg, zbh, zbi, zbj, zbk, zbl, zbm, zbn, zbo, zbp, zbq, zbr, zbs, zbt, zbu, zbv, zbw, zbx, zby, zbz, zca, zcb, zcc, zcd, zce, zcf, zcg, zch, zci, zcj, zck, zcl, zcm, zcn, ne_eq, zco, zcp, zcq, zcr, zcs, List.replicate, zct, zcu, zcv, zcw, zcx, zcy, zcz, zda, zdb, zdc, zdd, zde, zdf, zdg, zdh, zdi, killT, delta, tak, ev, ad, taks, evs, nL, getH, pack, arith, callD, Nat.reduceAdd, Nat.reduceSub, Nat.reduceMul, Nat.reduceLeDiff, Nat.reduceEqDiff, Nat.reduceBEq, Nat.reduceBNe, Nat.reduceLT, Nat.reduceDiv, Int.reduceNeg, Int.reduceLT, Int.reduceLE, Int.reduceEq, Int.reduceNe, Int.reduceAdd, Int.reduceSub, Int.reduceMul, Int.reduceToNat, Int.reduceBEq, Int.reduceBNe, fillP, fillE, okE, okW, bound, elS, srcS, Fin, finish, ress, resOf, one, keeps, ↓reduceIte, Dl.ap, Dl.slots, okD, isLp, zeros, reduceCtorEq, zdj, zdk, lp_slices_Equal_byte_byte_1, hq]
  · intro k x acc rest hx hk hk0 hw ih
    rw [List.getElem?_zip_eq_some] at hx
    have hga := bl_get hx.1
    have hgb := bl_get hx.2
    rw [Run_loop]
    by_cases h1 : x.1 = x.2
    · have ha' : (x :: rest).all (fun p => decide (p.1 = p.2)) = rest.all (fun p => decide (p.1 = p.2)) := by rw [List.all_cons]; simp [h1]
      have hne : (x.1 != x.2) = false := by simp [h1]
      rw [ha']
      simp (maxSteps := 4000000) only [↓set16, ↓sl16, zaa, zab, zac, zad, zz0, zz1, zz2, zz3, zz4, zae, zaf, zag, zah, zai, zaj, zak, zal, zam, zan, zao, zap, zaq, zar, zas, zat, zau, zav, zaw, zax, zay, zaz, zba, zbb, zbc, zbd, zbe, zbf, zbg, zbh, zbi, zbj, zbk, zbl, zbm, zbn, zbo, zbp, zbq, zbr, zbs, zbt, zbu, zbv, zbw, zbx, zby, zbz, zca, zcb, zcc, zcd, zce, zcf, zcg, zch, zci, zcj, zck, zcl, zcm, zcn, ne_eq, zco, zcp, zcq, zcr, zcs, List.replicate, zct, zcu, zcv, zcw, zcx, zcy, zcz, zda, zdb, zdc, zdd, zde, zdf, zdg, zdh, zdi, killT, delta, tak, ev, ad, taks, evs, nL, getH, pack, arith, callD, Nat.reduceAdd, Nat.reduceSub, Nat.reduceMul, Nat.reduceLeDiff, Nat.reduceEqDiff, Nat.reduceBEq, Nat.reduceBNe, Nat.reduceLT, Nat.reduceDiv, Int.reduceNeg, Int.reduceLT, Int.reduceLE, Int.reduceEq, Int.reduceNe, Int.reduceAdd, Int.reduceSub, Int.reduceMul, Int.reduceToNat, Int.reduceBEq, Int.reduceBNe, fillP, fillE, okE, okW, bound, elS, srcS, Fin, finish, ress, resOf, one, keeps, ↓reduceIte, Dl.ap, Dl.slots, okD, isLp, zeros, reduceCtorEq, zdj, zdk, lp_slices_Equal_byte_byte_1, hk, hk0, hga, hgb, Int.toNat_natCast, hne, hw]
      exact ih ()
    · have ha' : (x :: rest).all (fun p => decide (p.1 = p.2)) = false := by rw [List.all_cons]; simp [h1]
      have hne : (x.1 != x.2) = true := by simp [h1]
      rw [ha']
      simp (maxSteps := 4000000) only [↓set16, ↓sl16, zaa, zab, zac, zad, zz0, zz1, zz2, zz3, zz4, zae, zaf, zag, zah, zai, zaj, zak, zal, zam, zan, zao, zap, zaq, zar, zas, zat, zau, zav, zaw, zax, zay, zaz, zba, zbb, zbc, zbd, zbe, zbf, zbg, zbh, zbi, zbj, zbk, zbl, zbm, zbn, zbo, zbp, zbq, zbr, zbs, zbt, zbu, zbv, zbw, zbx, zby, zbz, zca, zcb, zcc, zcd, zce, zcf, zcg, zch, zci, zcj, zck, zcl, zcm, zcn, ne_eq, zco, zcp, zcq, zcr, zcs, List.replicate, zct, zcu, zcv, zcw, zcx, zcy, zcz, zda, zdb, zdc, zdd, zde, zdf, zdg, zdh, zdi, killT, delta, tak, ev, ad, taks, evs, nL, getH, pack, arith, callD, Nat.reduceAdd, Nat.reduceSub, Nat.reduceMul, Nat.reduceLeDiff, Nat.reduceEqDiff, Nat.reduceBEq, Nat.reduceBNe, Nat.reduceLT, Nat.reduceDiv, Int.reduceNeg, Int.reduceLT, Int.reduceLE, Int.reduceEq, Int.reduceNe, Int.reduceAdd, Int.reduceSub, Int.reduceMul, Int.reduceToNat, Int.reduceBEq, Int.reduceBNe, fillP, fillE, okE, okW, bound, elS, srcS, Fin, finish, ress, resOf, one, keeps, ↓reduceIte, Dl.ap, Dl.slots, okD, isLp, zeros, reduceCtorEq, zdj, zdk, lp_slices_Equal_byte_byte_1, hk, hk0, hga, hgb, Int.toNat_natCast, hne]
def sameE (a b : En) : Bool := a.ix == b.ix && (a.tm == b.tm && (a.kd == b.kd && decide (a.dt = b.dt)))
theorem record_SameEntry (a b : En) (ha : a.dt.length ≤ 9223372036854775807) : CT n_record_SameEntry [a.tv, b.tv] H = some ⟨.bool (sameE a b), H, false⟩ := by
  have hE := bytes_Equal (H := H) a.dt b.dt ha
  rw [En.tv_eq, En.tv_eq]
  unfold sameE
  cases e1 : a.ix == b.ix <;> simp only [Bool.false_and, Bool.true_and]
  · refine callT_of rfl tab_record_SameEntry ?_
    simp (maxSteps := 4000000) only [↓set16, ↓sl16, zaa, zab, zac, zad, zz0, zz1, zz2, zz3, zz4, zae, zaf, zag, zah, zai, zaj, zak, zal, zam, zan, zao, zap, zaq, zar, zas, zat, zau, zav, zaw, zax, zay, zaz, zba, zbb, zbc, zbd, zbe, zbf, zbg, zbh, zbi, zbj, zbk, zbl, zbm, zbn, zbo, zbp, zbq, zbr, zbs, zbt, zbu, zbv, zbw, zbx, zby, zbz, zca, zcb, zcc, zcd, zce, zcf, zcg, zch, zci, zcj, zck, zcl, zcm, zcn, ne_eq, zco, zcp, zcq, zcr, zcs, List.replicate, zct, zcu, zcv, zcw, zcx, zcy, zcz, zda, zdb, zdc, zdd, zde, zdf, zdg, zdh, zdi, killT, delta, tak, ev, ad, taks, evs, nL, getH, pack, arith, callD, Nat.reduceAdd, Nat.reduceSub, Nat.reduceMul, Nat.reduceLeDiff, Nat.reduceEqDiff, Nat.reduceBEq, Nat.reduceBNe, Nat.reduceLT, Nat.reduceDiv, Int.reduceNeg, Int.reduceLT, Int.reduceLE, Int.reduceEq, Int.reduceNe, Int.reduceAdd, Int.reduceSub, Int.reduceMul, Int.reduceToNat, Int.reduceBEq, Int.reduceBNe, fillP, fillE, okE, okW, bound, elS, srcS, Fin, finish, ress, resOf, one, keeps, ↓reduceIte, Dl.ap, Dl.slots, okD, isLp, zeros, reduceCtorEq, zdj, zdk, tf_record_SameEntry, e1]
  cases e2 : a.tm == b.tm <;> simp only [Bool.false_and, Bool.true_and]
  · refine callT_of rfl tab_record_SameEntry ?_
    simp (maxSteps := 4000000) only [↓set16, ↓sl16, zaa, zab, zac, zad, zz0, zz1, zz2, zz3, zz4, zae, zaf, zag, zah, zai, zaj, zak, zal, zam, zan, zao, zap, zaq, zar, zas, zat, zau, zav, zaw, zax, zay, zaz, zba, zbb, zbc, zbd, zbe, zbf, zbg, zbh, zbi, zbj, zbk, zbl, zbm, zbn, zbo, zbp, zbq, zbr, zbs, zbt, zbu, zbv, zbw, zbx, zby, zbz, zca, zcb, zcc, zcd, zce, zcf, zcg, zch, zci, zcj, zck, zcl, zcm, zcn, ne_eq, zco, zcp, zcq, zcr, zcs, List.replicate, zct, zcu, zcv, zcw, zcx, zcy, zcz, zda, zdb, zdc, zdd, zde, zdf, zdg, zdh, zdi, killT, delta, tak, ev, ad, taks, evs, nL, getH, pack, arith, callD, Nat.reduceAdd, Nat.reduceSub, Nat.reduceMul, Nat.reduceLeDiff, Nat.reduceEqDiff, Nat.reduceBEq, Nat.reduceBNe, Nat.reduceLT, Nat.reduceDiv, Int.reduceNeg, Int.reduceLT, Int.reduceLE, Int.reduceEq, Int.reduceNe, Int.reduceAdd, Int.reduceSub, Int.reduceMul, Int.reduceToNat, Int.reduceBEq, Int.reduceBNe, fillP, fillE, okE, okW, bound, elS, srcS, Fin, finish, ress, resOf, one, keeps, ↓reduceIte, Dl.ap, Dl.slots, okD, isLp, zeros, reduceCtorEq, zdj, zdk, tf_record_SameEntry, e1, e2]
  cases e3 : a.kd == b.kd <;> simp only [Bool.false_and, Bool.true_and]
  · refine callT_of rfl tab_record_SameEntry ?_
    simp (maxSteps := 4000000) only [↓set16, ↓sl16, zaa, zab, zac, zad, zz0, zz1, zz2, zz3, zz4, zae, zaf, zag, zah, zai, zaj, zak, zal, zam, zan, zao, zap, zaq, zar, zas, zat, zau, zav, zaw, zax, zay, zaz, zba, zbb, zbc, zbd, zbe, zbf, zbg, zbh, zbi, zbj, zbk, zbl, zbm, zbn, zbo, zbp, zbq, zbr, zbs, zbt, zbu, zbv, zbw, zbx, zby, zbz, zca, zcb, zcc, zcd, zce, zcf, zcg, zch, zci, zcj, zck, zcl, zcm, zcn, ne_eq, zco, zcp, zcq, zcr, zcs, List.replicate, zct, zcu, zcv, zcw, zcx, zcy, zcz, zda, zdb, zdc, zdd, zde, zdf, zdg, zdh, zdi, killT, delta, tak, ev, ad, taks, evs, nL, getH, pack, arith, callD, Nat.reduceAdd, Nat.reduceSub, Nat.reduceMul, Nat.reduceLeDiff, Nat.reduceEqDiff, Nat.reduceBEq, Nat.reduceBNe, Nat.reduceLT, Nat.reduceDiv, Int.reduceNeg, Int.reduceLT, Int.reduceLE, Int.reduceEq, Int.reduceNe, Int.reduceAdd, Int.reduceSub, Int.reduceMul, Int.reduceToNat, Int.reduceBEq, Int.reduceBNe, fillP, fillE, okE, okW, bound, elS, srcS, Fin, finish, ress, resOf, one, keeps, ↓reduceIte, Dl.ap, Dl.slots, okD, isLp, zeros, reduceCtorEq, zdj, zdk, tf_record_SameEntry, e1, e2, e3]
  · refine callT_of rfl tab_record_SameEntry ?_
    simp (maxSteps := 4000000) only [↓set16, ↓sl16, zaa, zab, zac, zad, zz0, zz1, zz2, zz3, zz4, zae, zaf, zag, zah, zai, zaj, zak, zal, zam, zan, zao, zap, zaq, zar, zas, zat, zau, zav, zaw, zax, zay, zaz, zba, zbb, zbc, zbd, zbe, zbf, zbg, zbh, zbi, zbj, zbk, zbl, zbm, zbn, zbo, zbp, zbq, zbr, zbs, zbt, zbu, zbv, zbw, zbx, zby, zbz, zca, zcb, zcc, zcd, zce, zcf, zcg, zch, zci, zcj, zck, zcl, zcm, zcn, ne_eq, zco, zcp, zcq, zcr, zcs, List.replicate, zct, zcu, zcv, zcw, zcx, zcy, zcz, zda, zdb, zdc, zdd, zde, zdf, zdg, zdh, zdi, killT, delta, tak, ev, ad, taks, evs, nL, getH, pack, arith, callD, Nat.reduceAdd, Nat.reduceSub, Nat.reduceMul, Nat.reduceLeDiff, Nat.reduceEqDiff, Nat.reduceBEq, Nat.reduceBNe, Nat.reduceLT, Nat.reduceDiv, Int.reduceNeg, Int.reduceLT, Int.reduceLE, Int.reduceEq, Int.reduceNe, Int.reduceAdd, Int.reduceSub, Int.reduceMul, Int.reduceToNat, Int.reduceBEq, Int.reduceBNe, fillP, fillE, okE, okW, bound, elS, srcS, Fin, finish, ress, resOf, one, keeps, ↓reduceIte, Dl.ap, Dl.slots, okD, isLp, zeros, reduceCtorEq, zdj, zdk, tf_record_SameEntry, e1, e2, e3, hE]
theorem ref11_SameEntry (a b : En) (ha : ∀ x ∈ a.dt, 0 ≤ x ∧ x ≤ 255) (hb : ∀ x ∈ b.dt, 0 ≤ x ∧ x ≤ 255) : CT n_ref11_SameEntry [a.tv, b.tv] H = some ⟨.bool (sameE a b), H, false⟩ := by
  have ba := bl_byte a.dt
  have bb := bl_byte b.dt
  have hE := strOf_inj ha hb
  unfold strOf at hE
  rw [En.tv_eq, En.tv_eq]
  unfold sameE
  cases e1 : a.ix == b.ix <;> simp only [Bool.false_and, Bool.true_and]
  · refine callT_of rfl tab_ref11_SameEntry ?_
    simp (maxSteps := 4000000) only [↓set16, ↓sl16, zaa, zab, zac, zad, zz0, zz1, zz2, zz3, zz4, zae, zaf, zag, zah, zai, zaj, zak, zal, zam, zan, zao, zap, zaq, zar, zas, zat, zau, zav, zaw, zax, zay, zaz, zba, zbb, zbc, zbd, zbe, zbf, zbg, zbh, zbi, zbj, zbk, zbl, zbm, zbn, zbo, zbp, zbq, zbr, zbs, zbt, zbu, zbv, zbw, zbx, zby, zbz, zca, zcb, zcc, zcd, zce, zcf, zcg, zch, zci, zcj, zck, zcl, zcm, zcn, ne_eq, zco, zcp, zcq, zcr, zcs, List.replicate, zct, zcu, zcv, zcw, zcx, zcy, zcz, zda, zdb, zdc, zdd, zde, zdf, zdg, zdh, zdi, killT, delta, tak, ev, ad, taks, evs, nL, getH, pack, arith, callD, Nat.reduceAdd, Nat.reduceSub, Nat.reduceMul, Nat.reduceLeDiff, Nat.reduceEqDiff, Nat.reduceBEq, Nat.reduceBNe, Nat.reduceLT, Nat.reduceDiv, Int.reduceNeg, Int.reduceLT, Int.reduceLE, Int.reduceEq, Int.reduceNe, Int.reduceAdd, Int.reduceSub, Int.reduceMul, Int.reduceToNat, Int.reduceBEq, Int.reduceBNe, fillP, fillE, okE, okW, bound, elS, srcS, Fin, finish, ress, resOf, one, keeps, ↓reduceIte, Dl.ap, Dl.slots, okD, isLp, zeros, reduceCtorEq, zdj, zdk, tf_ref11_SameEntry, e1]
  cases e2 : a.tm == b.tm <;> simp only [Bool.false_and, Bool.true_and]
  · refine callT_of rfl tab_ref11_SameEntry ?_
    simp (maxSteps := 4000000) only [↓set16, ↓sl16, zaa, zab, zac, zad, zz0, zz1, zz2, zz3, zz4, zae, zaf, zag, zah, zai, zaj, zak, zal, zam, zan, zao, zap, zaq, zar, zas, zat, zau, zav, zaw, zax, zay, zaz, zba, zbb, zbc, zbd, zbe, zbf, zbg, zbh, zbi, zbj, zbk, zbl, zbm, zbn, zbo, zbp, zbq, zbr, zbs, zbt, zbu, zbv, zbw, zbx, zby, zbz, zca, zcb, zcc, zcd, zce, zcf, zcg, zch, zci, zcj, zck, zcl, zcm, zcn, ne_eq, zco, zcp, zcq, zcr, zcs, List.replicate, zct, zcu, zcv, zcw, zcx, zcy, zcz, zda, zdb, zdc, zdd, zde, zdf, zdg, zdh, zdi, killT, delta, tak, ev, ad, taks, evs, nL, getH, pack, arith, callD, Nat.reduceAdd, Nat.reduceSub, Nat.reduceMul, Nat.reduceLeDiff, Nat.reduceEqDiff, Nat.reduceBEq, Nat.reduceBNe, Nat.reduceLT, Nat.reduceDiv, Int.reduceNeg, Int.reduceLT, Int.reduceLE, Int.reduceEq, Int.reduceNe, Int.reduceAdd, Int.reduceSub, Int.reduceMul, Int.reduceToNat, Int.reduceBEq, Int.reduceBNe, fillP, fillE, okE, okW, bound, elS, srcS, Fin, finish, ress, resOf, one, keeps, ↓reduceIte, Dl.ap, Dl.slots, okD, isLp, zeros, reduceCtorEq, zdj, zdk, tf_ref11_SameEntry, e1, e2]
  cases e3 : a.kd == b.kd <;> simp only [Bool.false_and, Bool.true_and]
  · refine callT_of rfl tab_ref11_SameEntry ?_
    simp (maxSteps := 4000000) only [↓set16, ↓sl16, zaa, zab, zac, zad, zz0, zz1, zz2, zz3, zz4, zae, zaf, zag, zah, zai, zaj, zak, zal, zam, zan, zao, zap, zaq, zar, zas, zat, zau, zav, zaw, zax, zay, zaz, zba, zbb, zbc, zbd, zbe, zbf, zbg, zbh, zbi, zbj, zbk, zbl, zbm, zbn, zbo, zbp, zbq, zbr, zbs, zbt, zbu, zbv, zbw, zbx, zby, zbz, zca, zcb, zcc, zcd, zce, zcf, zcg, zch, zci, zcj, zck, zcl, zcm, zcn, ne_eq, zco, zcp, zcq, zcr, zcs, List.replicate, zct, zcu, zcv, zcw, zcx, zcy, zcz, zda, zdb, zdc, zdd, zde, zdf, zdg, zdh, zdi, killT, delta, tak, ev, ad, taks, evs, nL, getH, pack, arith, callD, Nat.reduceAdd, Nat.reduceSub, Nat.reduceMul, Nat.reduceLeDiff, Nat.reduceEqDiff, Nat.reduceBEq, Nat.reduceBNe, Nat.reduceLT, Nat.reduceDiv, Int.reduceNeg, Int.reduceLT, Int.reduceLE, Int.reduceEq, Int.reduceNe, Int.reduceAdd, Int.reduceSub, Int.reduceMul, Int.reduceToNat, Int.reduceBEq, Int.reduceBNe, fillP, fillE, okE, okW, bound, elS, srcS, Fin, finish, ress, resOf, one, keeps, ↓reduceIte, Dl.ap, Dl.slots, okD, isLp, zeros, reduceCtorEq, zdj, zdk, tf_ref11_SameEntry, e1, e2, e3]
  · refine callT_of rfl tab_ref11_SameEntry ?_
    simp (maxSteps := 4000000) only [↓set16, ↓sl16, zaa, zab, zac, zad, zz0, zz1, zz2, zz3, zz4, zae, zaf, zag, zah, zai, zaj, zak, zal, zam, zan, zao, zap, zaq, zar, zas, zat, zau, zav, zaw, zax, zay, zaz, zba, zbb, zbc, zbd, zbe, zbf, zbg, zbh, zbi, zbj, zbk, zbl, zbm, zbn, zbo, zbp, zbq, zbr, zbs, zbt, zbu, zbv, zbw, zbx, zby, zbz, zca, zcb, zcc, zcd, zce, zcf, zcg, zch, zci, zcj, zck, zcl, zcm, zcn, ne_eq, zco, zcp, zcq, zcr, zcs, List.replicate, zct, zcu, zcv, zcw, zcx, zcy, zcz, zda, zdb, zdc, zdd, zde, zdf, zdg, zdh, zdi, killT, delta, tak, ev, ad, taks, evs, nL, getH, pack, arith, callD, Nat.reduceAdd, Nat.reduceSub, Nat.reduceMul, Nat.reduceLeDiff, Nat.reduceEqDiff, Nat.reduceBEq, Nat.reduceBNe, Nat.reduceLT, Nat.reduceDiv, Int.reduceNeg, Int.reduceLT, Int.reduceLE, Int.reduceEq, Int.reduceNe, Int.reduceAdd, Int.reduceSub, Int.reduceMul, Int.reduceToNat, Int.reduceBEq, Int.reduceBNe, fillP, fillE, okE, okW, bound, elS, srcS, Fin, finish, ress, resOf, one, keeps, ↓reduceIte, Dl.ap, Dl.slots, okD, isLp, zeros, reduceCtorEq, zdj, zdk, tf_ref11_SameEntry, e1, e2, e3, ba, bb, hE]
theorem ref11_in (n lo hi : Int) : CT n_ref11_in [.int .i64 n, .int .i64 lo, .int .i64 hi] H = some ⟨.bool (within n lo hi), H, false⟩ := by
  by_cases h1 : lo ≤ n
  · have e : within n lo hi = decide (n ≤ hi) := by simp [within, h1]
    rw [e]
    refine callT_of rfl tab_ref11_in ?_
    simp (maxSteps := 4000000) only [↓set16, ↓sl16, zaa, zab, zac, zad, zz0, zz1, zz2, zz3, zz4, zae, zaf, zag, zah, zai, zaj, zak, zal, zam, zan, zao, zap, zaq, zar, zas, zat, zau, zav, zaw, zax, zay, zaz, zba, zbb, zbc, zbd, zbe, zbf, zbg, zbh, zbi, zbj, zbk, zbl, zbm, zbn, zbo, zbp, zbq, zbr, zbs, zbt, zbu, zbv, zbw, zbx, zby, zbz, zca, zcb, zcc, zcd, zce, zcf, zcg, zch, zci, zcj, zck, zcl, zcm, zcn, ne_eq, zco, zcp, zcq, zcr, zcs, List.replicate, zct, zcu, zcv, zcw, zcx, zcy, zcz, zda, zdb, zdc, zdd, zde, zdf, zdg, zdh, zdi, killT, delta, tak, ev, ad, taks, evs, nL, getH, pack, arith, callD, Nat.reduceAdd, Nat.reduceSub, Nat.reduceMul, Nat.reduceLeDiff, Nat.reduceEqDiff, Nat.reduceBEq, Nat.reduceBNe, Nat.reduceLT, Nat.reduceDiv, Int.reduceNeg, Int.reduceLT, Int.reduceLE, Int.reduceEq, Int.reduceNe, Int.reduceAdd, Int.reduceSub, Int.reduceMul, Int.reduceToNat, Int.reduceBEq, Int.reduceBNe, fillP, fillE, okE, okW, bound, elS, srcS, Fin, finish, ress, resOf, one, keeps, ↓reduceIte, Dl.ap, Dl.slots, okD, isLp, zeros, reduceCtorEq, zdj, zdk, tf_ref11_in, h1, ge_iff_le]
  · have e : within n lo hi = false := by simp [within, h1]
    rw [e]
    refine callT_of rfl tab_ref11_in ?_
    simp (maxSteps := 4000000) only [↓set16, ↓sl16, zaa, zab, zac, zad, zz0, zz1, zz2, zz3, zz4, zae, zaf, zag, zah, zai, zaj, zak, zal, zam, zan, zao, zap, zaq, zar, zas, zat, zau, zav, zaw, zax, zay, zaz, zba, zbb, zbc, zbd, zbe, zbf, zbg, zbh, zbi, zbj, zbk, zbl, zbm, zbn, zbo, zbp, zbq, zbr, zbs, zbt, zbu, zbv, zbw, zbx, zby, zbz, zca, zcb, zcc, zcd, zce, zcf, zcg, zch, zci, zcj, zck, zcl, zcm, zcn, ne_eq, zco, zcp, zcq, zcr, zcs, List.replicate, zct, zcu, zcv, zcw, zcx, zcy, zcz, zda, zdb, zdc, zdd, zde, zdf, zdg, zdh, zdi, killT, delta, tak, ev, ad, taks, evs, nL, getH, pack, arith, callD, Nat.reduceAdd, Nat.reduceSub, Nat.reduceMul, Nat.reduceLeDiff, Nat.reduceEqDiff, Nat.reduceBEq, Nat.reduceBNe, Nat.reduceLT, Nat.reduceDiv, Int.reduceNeg, Int.reduceLT, Int.reduceLE, Int.reduceEq, Int.reduceNe, Int.reduceAdd, Int.reduceSub, Int.reduceMul, Int.reduceToNat, Int.reduceBEq, Int.reduceBNe, fillP, fillE, okE, okW, bound, elS, srcS, Fin, finish, ress, resOf, one, keeps, ↓reduceIte, Dl.ap, Dl.slots, okD, isLp, zeros, reduceCtorEq, zdj, zdk, tf_ref11_in, h1, ge_iff_le]
theorem ref11_Entry (e : En) : CT n_ref11_Entry [e.tv] H = some ⟨.bool (entB e), H, false⟩ := by
  have h1 := ref11_in (H := H) e.ix 1 2147483648
  have h2 := ref11_in (H := H) e.tm 0 2147483648
  have h3 := ref11_in (H := H) e.kd 0 2
  rw [En.tv_eq]
  unfold entB
  cases e1 : within e.ix 1 2147483648 <;> rw [e1] at h1 <;> simp only [Bool.false_and, Bool.true_and]
  · refine callT_of rfl tab_ref11_Entry ?_
    simp (maxSteps := 4000000) only [↓set16, ↓sl16, zaa, zab, zac, zad, zz0, zz1, zz2, zz3, zz4, zae, zaf, zag, zah, zai, zaj, zak, zal, zam, zan, zao, zap, zaq, zar, zas, zat, zau, zav, zaw, zax, zay, zaz, zba, zbb, zbc, zbd, zbe, zbf, zbg, zbh, zbi, zbj, zbk, zbl, zbm, zbn, zbo, zbp, zbq, zbr, zbs, zbt, zbu, zbv, zbw, zbx, zby, zbz, zca, zcb, zcc, zcd, zce, zcf, zcg, zch, zci, zcj, zck, zcl, zcm, zcn, ne_eq, zco, zcp, zcq, zcr, zcs, List.replicate, zct, zcu, zcv, zcw, zcx, zcy, zcz, zda, zdb, zdc, zdd, zde, zdf, zdg, zdh, zdi, killT, delta, tak, ev, ad, taks, evs, nL, getH, pack, arith, callD, Nat.reduceAdd, Nat.reduceSub, Nat.reduceMul, Nat.reduceLeDiff, Nat.reduceEqDiff, Nat.reduceBEq, Nat.reduceBNe, Nat.reduceLT, Nat.reduceDiv, Int.reduceNeg, Int.reduceLT, Int.reduceLE, Int.reduceEq, Int.reduceNe, Int.reduceAdd, Int.reduceSub, Int.reduceMul, Int.reduceToNat, Int.reduceBEq, Int.reduceBNe, fillP, fillE, okE, okW, bound, elS, srcS, Fin, finish, ress, resOf, one, keeps, ↓reduceIte, Dl.ap, Dl.slots, okD, isLp, zeros, reduceCtorEq, zdj, zdk, tf_ref11_Entry, h1]
  cases e2 : within e.tm 0 2147483648 <;> rw [e2] at h2 <;> simp only [Bool.false_and, Bool.true_and]
  · refine callT_of rfl tab_ref11_Entry ?_
    simp (maxSteps := 4000000) only [↓set16, ↓sl16, zaa, zab, zac, zad, zz0, zz1, zz2, zz3, zz4, zae, zaf, zag, zah, zai, zaj, zak, zal, zam, zan, zao, zap, zaq, zar, zas, zat, zau, zav, zaw, zax, zay, zaz, zba, zbb, zbc, zbd, zbe, zbf, zbg, zbh, zbi, zbj, zbk, zbl, zbm, zbn, zbo, zbp, zbq, zbr, zbs, zbt, zbu, zbv, zbw, zbx, zby, zbz, zca, zcb, zcc, zcd, zce, zcf, zcg, zch, zci, zcj, zck, zcl, zcm, zcn, ne_eq, zco, zcp, zcq, zcr, zcs, List.replicate, zct, zcu, zcv, zcw, zcx, zcy, zcz, zda, zdb, zdc, zdd, zde, zdf, zdg, zdh, zdi, killT, delta, tak, ev, ad, taks, evs, nL, getH, pack, arith, callD, Nat.reduceAdd, Nat.reduceSub, Nat.reduceMul, Nat.reduceLeDiff, Nat.reduceEqDiff, Nat.reduceBEq, Nat.reduceBNe, Nat.reduceLT, Nat.reduceDiv, Int.reduceNeg, Int.reduceLT, Int.reduceLE, Int.reduceEq, Int.reduceNe, Int.reduceAdd, Int.reduceSub, Int.reduceMul, Int.reduceToNat, Int.reduceBEq, Int.reduceBNe, fillP, fillE, okE, okW, bound, elS, srcS, Fin, finish, ress, resOf, one, keeps, ↓reduceIte, Dl.ap, Dl.slots, okD, isLp, zeros, reduceCtorEq, zdj, zdk, tf_ref11_Entry, h1, h2]
  cases e3 : within e.kd 0 2 <;> rw [e3] at h3 <;> simp only [Bool.false_and, Bool.true_and]
  · refine callT_of rfl tab_ref11_Entry ?_
    simp (maxSteps := 4000000) only [↓set16, ↓sl16, zaa, zab, zac, zad, zz0, zz1, zz2, zz3, zz4, zae, zaf, zag, zah, zai, zaj, zak, zal, zam, zan, zao, zap, zaq, zar, zas, zat, zau, zav, zaw, zax, zay, zaz, zba, zbb, zbc, zbd, zbe, zbf, zbg, zbh, zbi, zbj, zbk, zbl, zbm, zbn, zbo, zbp, zbq, zbr, zbs, zbt, zbu, zbv, zbw, zbx, zby, zbz, zca, zcb, zcc, zcd, zce, zcf, zcg, zch, zci, zcj, zck, zcl, zcm, zcn, ne_eq, zco, zcp, zcq, zcr, zcs, List.replicate, zct, zcu, zcv, zcw, zcx, zcy, zcz, zda, zdb, zdc, zdd, zde, zdf, zdg, zdh, zdi, killT, delta, tak, ev, ad, taks, evs, nL, getH, pack, arith, callD, Nat.reduceAdd, Nat.reduceSub, Nat.reduceMul, Nat.reduceLeDiff, Nat.reduceEqDiff, Nat.reduceBEq, Nat.reduceBNe, Nat.reduceLT, Nat.reduceDiv, Int.reduceNeg, Int.reduceLT, Int.reduceLE, Int.reduceEq, Int.reduceNe, Int.reduceAdd, Int.reduceSub, Int.reduceMul, Int.reduceToNat, Int.reduceBEq, Int.reduceBNe, fillP, fillE, okE, okW, bound, elS, srcS, Fin, finish, ress, resOf, one, keeps, ↓reduceIte, Dl.ap, Dl.slots, okD, isLp, zeros, reduceCtorEq, zdj, zdk, tf_ref11_Entry, h1, h2, h3]
  · refine callT_of rfl tab_ref11_Entry ?_
    simp (maxSteps := 4000000) only [↓set16, ↓sl16, zaa, zab, zac, zad, zz0, zz1, zz2, zz3, zz4, zae, zaf, zag, zah, zai, zaj, zak, zal, zam, zan, zao, zap, zaq, zar, zas, zat, zau, zav, zaw, zax, zay, zaz, zba, zbb, zbc, zbd, zbe, zbf, zbg, zbh, zbi, zbj, zbk, zbl, zbm, zbn, zbo, zbp, zbq, zbr, zbs, zbt, zbu, zbv, zbw, zbx, zby, zbz, zca, zcb, zcc, zcd, zce, zcf, zcg, zch, zci, zcj, zck, zcl, zcm, zcn, ne_eq, zco, zcp, zcq, zcr, zcs, List.replicate, zct, zcu, zcv, zcw, zcx, zcy, zcz, zda, zdb, zdc, zdd, zde, zdf, zdg, zdh, zdi, killT, delta, tak, ev, ad, taks, evs, nL, getH, pack, arith, callD, Nat.reduceAdd, Nat.reduceSub, Nat.reduceMul, Nat.reduceLeDiff, Nat.reduceEqDiff, Nat.reduceBEq, Nat.reduceBNe, Nat.reduceLT, Nat.reduceDiv, Int.reduceNeg, Int.reduceLT, Int.reduceLE, Int.reduceEq, Int.reduceNe, Int.reduceAdd, Int.reduceSub, Int.reduceMul, Int.reduceToNat, Int.reduceBEq, Int.reduceBNe, fillP, fillE, okE, okW, bound, elS, srcS, Fin, finish, ress, resOf, one, keeps, ↓reduceIte, Dl.ap, Dl.slots, okD, isLp, zeros, reduceCtorEq, zdj, zdk, tf_ref11_Entry, h1, h2, h3, bl_len]
/-- An entry behind bytes. -/
def putE (b : List Int) (e : En) : List Int := if entB e = true then putAll b [e.ix, e.tm, e.kd] ++ numB e.dt.length ++ e.dt else b
theorem putAll_len (l : List Int) : ∀ acc, (putAll acc l).length ≤ acc.length + 9 * l.length := by
  induction l with
  | nil => intro acc; exact Nat.le_refl _
  | cons n l ih =>
    intro acc
    have := ih (acc ++ numB n)
    have hb := numB_len n
    rw [List.length_append] at this
    rw [List.length_cons]
    show (putAll (acc ++ numB n) l).length ≤ _
    omega
theorem ref11_PutEntry (b : List Int) (e : En) (he : e.ok) (hb : b.length ≤ 1000000) (hd : e.dt.length ≤ 1000000) : ∃ g, CT n_ref11_PutEntry [.sl .shr (bl b), e.tv] H = some ⟨.sl g (bl (putE b e)), H, false⟩ := by
  have hE := ref11_Entry (H := H) e
  rw [En.tv_eq] at hE ⊢
  unfold putE
  cases hc : entB e
  · rw [hc] at hE
    rw [if_neg (by simp)]
    have okw := bl_okW b
    have r1 : b.length ≤ roomB := by unfold roomB; omega
    refine ⟨.own 1 false, ?_⟩
    refine callT_of rfl tab_ref11_PutEntry ?_
    simp (maxSteps := 4000000) only [↓set16, ↓sl16, zaa, zab, zac, zad, zz0, zz1, zz2, zz3, zz4, zae, zaf, zag, zah, zai, zaj, zak, zal, zam, zan, zao, zap, zaq, zar, zas, zat, zau, zav, zaw, zax, zay, zaz, zba, zbb, zbc, zbd, zbe, zbf, zbg, zbh, zbi, zbj, zbk, zbl, zbm, zbn, zbo, zbp, zbq, zbr, zbs, zbt, zbu, zbv, zbw, zbx, zby, zbz, zca, zcb, zcc, zcd, zce, zcf, zcg, zch, zci, zcj, zck, zcl, zcm, zcn, ne_eq, zco, zcp, zcq, zcr, zcs, List.replicate, zct, zcu, zcv, zcw, zcx, zcy, zcz, zda, zdb, zdc, zdd, zde, zdf, zdg, zdh, zdi, killT, delta, tak, ev, ad, taks, evs, nL, getH, pack, arith, callD, Nat.reduceAdd, Nat.reduceSub, Nat.reduceMul, Nat.reduceLeDiff, Nat.reduceEqDiff, Nat.reduceBEq, Nat.reduceBNe, Nat.reduceLT, Nat.reduceDiv, Int.reduceNeg, Int.reduceLT, Int.reduceLE, Int.reduceEq, Int.reduceNe, Int.reduceAdd, Int.reduceSub, Int.reduceMul, Int.reduceToNat, Int.reduceBEq, Int.reduceBNe, fillP, fillE, okE, okW, bound, elS, srcS, Fin, finish, ress, resOf, one, keeps, ↓reduceIte, Dl.ap, Dl.slots, okD, isLp, zeros, reduceCtorEq, zdj, zdk, tf_ref11_PutEntry, hE, okw, bl_len, r1]
  · rw [hc] at hE
    rw [if_pos rfl]
    have b1 := numB_len e.ix
    have b2 := numB_len e.tm
    have b3 := numB_len e.kd
    have P1 := ref02_Num (H := H) b e.ix he.ix (by omega)
    have P2 := ref02_Num (H := H) (b ++ numB e.ix) e.tm he.tm (by rw [List.length_append]; omega)
    have P3 := ref02_Num (H := H) (b ++ numB e.ix ++ numB e.tm) e.kd he.kd (by simp only [List.length_append]; omega)
    have P4 := ref02_Text (H := H) (b ++ numB e.ix ++ numB e.tm ++ numB e.kd) (strOf e.dt) (by simp only [List.length_append]; omega) (by rw [strOf_size]; omega)
    rw [strB_strOf _ he.dt, strOf_size] at P4
    have e2 : b ++ numB e.ix ++ numB e.tm ++ numB e.kd = putAll b [e.ix, e.tm, e.kd] := rfl
    rw [e2] at P3 P4
    generalize putAll b [e.ix, e.tm, e.kd] = B3 at *
    generalize b ++ numB e.ix ++ numB e.tm = B2 at *
    generalize b ++ numB e.ix = B1 at *
    have hby := bl_byte e.dt
    unfold strOf at P4
    refine ⟨.own 1 false, ?_⟩
    refine callT_of rfl tab_ref11_PutEntry ?_
    simp (maxSteps := 4000000) only [↓set16, ↓sl16, zaa, zab, zac, zad, zz0, zz1, zz2, zz3, zz4, zae, zaf, zag, zah, zai, zaj, zak, zal, zam, zan, zao, zap, zaq, zar, zas, zat, zau, zav, zaw, zax, zay, zaz, zba, zbb, zbc, zbd, zbe, zbf, zbg, zbh, zbi, zbj, zbk, zbl, zbm, zbn, zbo, zbp, zbq, zbr, zbs, zbt, zbu, zbv, zbw, zbx, zby, zbz, zca, zcb, zcc, zcd, zce, zcf, zcg, zch, zci, zcj, zck, zcl, zcm, zcn, ne_eq, zco, zcp, zcq, zcr, zcs, List.replicate, zct, zcu, zcv, zcw, zcx, zcy, zcz, zda, zdb, zdc, zdd, zde, zdf, zdg, zdh, zdi, killT, delta, tak, ev, ad, taks, evs, nL, getH, pack, arith, callD, Nat.reduceAdd, Nat.reduceSub, Nat.reduceMul, Nat.reduceLeDiff, Nat.reduceEqDiff, Nat.reduceBEq, Nat.reduceBNe, Nat.reduceLT, Nat.reduceDiv, Int.reduceNeg, Int.reduceLT, Int.reduceLE, Int.reduceEq, Int.reduceNe, Int.reduceAdd, Int.reduceSub, Int.reduceMul, Int.reduceToNat, Int.reduceBEq, Int.reduceBNe, fillP, fillE, okE, okW, bound, elS, srcS, Fin, finish, ress, resOf, one, keeps, ↓reduceIte, Dl.ap, Dl.slots, okD, isLp, zeros, reduceCtorEq, zdj, zdk, tf_ref11_PutEntry, hE, P1, P2, P3, hby, P4]
theorem record_PutEntry (b : List Int) (e : En) (he : e.ok) (hb : b.length ≤ 1000000) (hd : e.dt.length ≤ 1000000) : ∃ g, CT n_record_PutEntry [.sl .shr (bl b), e.tv] H = some ⟨.sl g (bl (putE b e)), H, false⟩ := by
  have hlen : (H ++ [[TV.int .i64 e.ix, .int .i64 e.tm, .int .i64 e.kd, .sl .shr (bl e.dt)]]).length = H.length + 1 := by simp
  have hl : live (H ++ [[.int .i64 e.ix, .int .i64 e.tm, .int .i64 e.kd, .sl .shr (bl e.dt)]]) H.length = some [.int .i64 e.ix, .int .i64 e.tm, .int .i64 e.kd, .sl .shr (bl e.dt)] := live_app_eq rfl
  obtain ⟨r, hC, hT⟩ := bytes_Clone (H := H ++ [[.int .i64 e.ix, .int .i64 e.tm, .int .i64 e.kd, .sl .shr (bl e.dt)]]) b (by omega)
  have hE := record_Entry (H := H ++ [[.int .i64 e.ix, .int .i64 e.tm, .int .i64 e.kd, .sl .shr (bl e.dt)]]) e
  have hO := record_ofEntry (H := H ++ [[.int .i64 e.ix, .int .i64 e.tm, .int .i64 e.kd, .sl .shr (bl e.dt)]]) (j := H.length) e
  have hP := record_put (H := H ++ [[.int .i64 e.ix, .int .i64 e.tm, .int .i64 e.kd, .sl .shr (bl e.dt)]]) (j := H.length) b e.nums (by
    intro x hx
    simp only [En.nums, List.mem_cons, List.not_mem_nil, or_false] at hx
    rcases hx with rfl | rfl | rfl
    · exact he.ix
    · exact he.tm
    · exact he.kd) (by simp [En.nums]) (by omega) (e.at hl)
  have hpl := putAll_len [e.ix, e.tm, e.kd] b
  simp only [List.length_cons, List.length_nil] at hpl
  have en : e.nums.map Nm.n = [e.ix, e.tm, e.kd] := rfl
  rw [en] at hP
  have hX := pack_Text (H := H ++ [[.int .i64 e.ix, .int .i64 e.tm, .int .i64 e.kd, .sl .shr (bl e.dt)]]) (putAll b [e.ix, e.tm, e.kd]) (strOf e.dt) (by omega) (by rw [strOf_size]; omega)
  rw [strB_strOf _ he.dt, strOf_size] at hX
  have hby := bl_byte e.dt
  have htr : ∀ (g : Tag) (l : List Int), trim true H.length ⟨.sl g (bl l), H ++ [[.int .i64 e.ix, .int .i64 e.tm, .int .i64 e.kd, .sl .shr (bl e.dt)]], false⟩ = ⟨.sl g (bl l), H, false⟩ := fun g l => trim_in rfl (bl_lts _ _)
  have hbq := Heap_beq_refl (H ++ [[.int .i64 e.ix, .int .i64 e.tm, .int .i64 e.kd, .sl .shr (bl e.dt)]])
  rw [En.tv_eq] at hE ⊢
  unfold strOf at hX
  generalize e.nums.map (Nm.tv H.length) = L at *
  unfold putE
  generalize hG : H ++ [[TV.int .i64 e.ix, .int .i64 e.tm, .int .i64 e.kd, .sl .shr (bl e.dt)]] = G at *
  generalize putAll b [e.ix, e.tm, e.kd] = B at *
  cases hc : entB e
  · rw [hc] at hE
    rw [if_neg (by simp)]
    refine ⟨.shr, ?_⟩
    by_cases h0 : b.length = 0
    · rw [if_pos h0] at hT
      have hbn := List.eq_nil_of_length_eq_zero h0
      have h1 := htr .shr b
      rw [hbn] at h1 ⊢
      have nb : bl [] = [] := rfl
      rw [hbn] at hC
      rw [nb] at h1 hC ⊢
      refine callT_of rfl tab_record_PutEntry ?_
      simp (maxSteps := 4000000) only [↓set16, ↓sl16, zaa, zab, zac, zad, zz0, zz1, zz2, zz3, zz4, zae, zaf, zag, zah, zai, zaj, zak, zal, zam, zan, zao, zap, zaq, zar, zas, zat, zau, zav, zaw, zax, zay, zaz, zba, zbb, zbc, zbd, zbe, zbf, zbg, zbh, zbi, zbj, zbk, zbl, zbm, zbn, zbo, zbp, zbq, zbr, zbs, zbt, zbu, zbv, zbw, zbx, zby, zbz, zca, zcb, zcc, zcd, zce, zcf, zcg, zch, zci, zcj, zck, zcl, zcm, zcn, ne_eq, zco, zcp, zcq, zcr, zcs, List.replicate, zct, zcu, zcv, zcw, zcx, zcy, zcz, zda, zdb, zdc, zdd, zde, zdf, zdg, zdh, zdi, killT, delta, tak, ev, ad, taks, evs, nL, getH, pack, arith, callD, Nat.reduceAdd, Nat.reduceSub, Nat.reduceMul, Nat.reduceLeDiff, Nat.reduceEqDiff, Nat.reduceBEq, Nat.reduceBNe, Nat.reduceLT, Nat.reduceDiv, Int.reduceNeg, Int.reduceLT, Int.reduceLE, Int.reduceEq, Int.reduceNe, Int.reduceAdd, Int.reduceSub, Int.reduceMul, Int.reduceToNat, Int.reduceBEq, Int.reduceBNe, fillP, fillE, okE, okW, bound, elS, srcS, Fin, finish, ress, resOf, one, keeps, ↓reduceIte, Dl.ap, Dl.slots, okD, isLp, zeros, reduceCtorEq, zdj, zdk, tf_record_PutEntry, hG, hC, hT, hl, hE, h1]
    · rw [if_neg h0] at hT
      refine callT_of rfl tab_record_PutEntry ?_
      simp (maxSteps := 4000000) only [↓set16, ↓sl16, zaa, zab, zac, zad, zz0, zz1, zz2, zz3, zz4, zae, zaf, zag, zah, zai, zaj, zak, zal, zam, zan, zao, zap, zaq, zar, zas, zat, zau, zav, zaw, zax, zay, zaz, zba, zbb, zbc, zbd, zbe, zbf, zbg, zbh, zbi, zbj, zbk, zbl, zbm, zbn, zbo, zbp, zbq, zbr, zbs, zbt, zbu, zbv, zbw, zbx, zby, zbz, zca, zcb, zcc, zcd, zce, zcf, zcg, zch, zci, zcj, zck, zcl, zcm, zcn, ne_eq, zco, zcp, zcq, zcr, zcs, List.replicate, zct, zcu, zcv, zcw, zcx, zcy, zcz, zda, zdb, zdc, zdd, zde, zdf, zdg, zdh, zdi, killT, delta, tak, ev, ad, taks, evs, nL, getH, pack, arith, callD, Nat.reduceAdd, Nat.reduceSub, Nat.reduceMul, Nat.reduceLeDiff, Nat.reduceEqDiff, Nat.reduceBEq, Nat.reduceBNe, Nat.reduceLT, Nat.reduceDiv, Int.reduceNeg, Int.reduceLT, Int.reduceLE, Int.reduceEq, Int.reduceNe, Int.reduceAdd, Int.reduceSub, Int.reduceMul, Int.reduceToNat, Int.reduceBEq, Int.reduceBNe, fillP, fillE, okE, okW, bound, elS, srcS, Fin, finish, ress, resOf, one, keeps, ↓reduceIte, Dl.ap, Dl.slots, okD, isLp, zeros, reduceCtorEq, zdj, zdk, tf_record_PutEntry, hG, hC, hT, hl, hE, htr]
  · rw [hc] at hE
    rw [if_pos rfl]
    refine ⟨.own 1 false, ?_⟩
    by_cases h0 : b.length = 0
    · rw [if_pos h0] at hT
      have hbn := List.eq_nil_of_length_eq_zero h0
      have nb : bl [] = [] := rfl
      rw [hbn, nb] at hC hP ⊢
      refine callT_of rfl tab_record_PutEntry ?_
      simp (maxSteps := 4000000) only [↓set16, ↓sl16, zaa, zab, zac, zad, zz0, zz1, zz2, zz3, zz4, zae, zaf, zag, zah, zai, zaj, zak, zal, zam, zan, zao, zap, zaq, zar, zas, zat, zau, zav, zaw, zax, zay, zaz, zba, zbb, zbc, zbd, zbe, zbf, zbg, zbh, zbi, zbj, zbk, zbl, zbm, zbn, zbo, zbp, zbq, zbr, zbs, zbt, zbu, zbv, zbw, zbx, zby, zbz, zca, zcb, zcc, zcd, zce, zcf, zcg, zch, zci, zcj, zck, zcl, zcm, zcn, ne_eq, zco, zcp, zcq, zcr, zcs, List.replicate, zct, zcu, zcv, zcw, zcx, zcy, zcz, zda, zdb, zdc, zdd, zde, zdf, zdg, zdh, zdi, killT, delta, tak, ev, ad, taks, evs, nL, getH, pack, arith, callD, Nat.reduceAdd, Nat.reduceSub, Nat.reduceMul, Nat.reduceLeDiff, Nat.reduceEqDiff, Nat.reduceBEq, Nat.reduceBNe, Nat.reduceLT, Nat.reduceDiv, Int.reduceNeg, Int.reduceLT, Int.reduceLE, Int.reduceEq, Int.reduceNe, Int.reduceAdd, Int.reduceSub, Int.reduceMul, Int.reduceToNat, Int.reduceBEq, Int.reduceBNe, fillP, fillE, okE, okW, bound, elS, srcS, Fin, finish, ress, resOf, one, keeps, ↓reduceIte, Dl.ap, Dl.slots, okD, isLp, zeros, reduceCtorEq, zdj, zdk, tf_record_PutEntry, hG, hC, hT, hl, hE, hO, hbq, hP, hby, hX, htr]
    · rw [if_neg h0] at hT
      refine callT_of rfl tab_record_PutEntry ?_
      simp (maxSteps := 4000000) only [↓set16, ↓sl16, zaa, zab, zac, zad, zz0, zz1, zz2, zz3, zz4, zae, zaf, zag, zah, zai, zaj, zak, zal, zam, zan, zao, zap, zaq, zar, zas, zat, zau, zav, zaw, zax, zay, zaz, zba, zbb, zbc, zbd, zbe, zbf, zbg, zbh, zbi, zbj, zbk, zbl, zbm, zbn, zbo, zbp, zbq, zbr, zbs, zbt, zbu, zbv, zbw, zbx, zby, zbz, zca, zcb, zcc, zcd, zce, zcf, zcg, zch, zci, zcj, zck, zcl, zcm, zcn, ne_eq, zco, zcp, zcq, zcr, zcs, List.replicate, zct, zcu, zcv, zcw, zcx, zcy, zcz, zda, zdb, zdc, zdd, zde, zdf, zdg, zdh, zdi, killT, delta, tak, ev, ad, taks, evs, nL, getH, pack, arith, callD, Nat.reduceAdd, Nat.reduceSub, Nat.reduceMul, Nat.reduceLeDiff, Nat.reduceEqDiff, Nat.reduceBEq, Nat.reduceBNe, Nat.reduceLT, Nat.reduceDiv, Int.reduceNeg, Int.reduceLT, Int.reduceLE, Int.reduceEq, Int.reduceNe, Int.reduceAdd, Int.reduceSub, Int.reduceMul, Int.reduceToNat, Int.reduceBEq, Int.reduceBNe, fillP, fillE, okE, okW, bound, elS, srcS, Fin, finish, ress, resOf, one, keeps, ↓reduceIte, Dl.ap, Dl.slots, okD, isLp, zeros, reduceCtorEq, zdj, zdk, tf_record_PutEntry, hG, hC, hT, hl, hE, hO, hbq, hP, hby, hX, htr]
end Go.T
