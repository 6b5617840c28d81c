/- What the pack's reader answers, on: by its state. -/
import Derived.Test.YtijmmpeadikkbaaOfpk3
set_option linter.unusedVariables false
set_option linter.unusedSimpArgs false
set_option maxRecDepth 10000
set_option maxHeartbeats 1000000
namespace Go.T
attribute [local irreducible] Run Back RS Ap
/-- A text of bytes. -/
def strOf (l : List Int) : ByteArray := ⟨((bl l).map byteOf).toArray⟩
def rT (m : Int) (s : RSt) : ByteArray × RSt := if (rN m s).2.2 ≠ 0 then (⟨#[]⟩, (rN m s).2) else if ((rN m s).2.1.length : Int) < (rN m s).1 then (⟨#[]⟩, ([], 4)) else (strOf ((rN m s).2.1.take (rN m s).1.toNat), ((rN m s).2.1.drop (rN m s).1.toNat, 0))
theorem rdNum_nn (b : List Int) (m : Int) : 0 ≤ (rdNum b m).1 := by
  unfold rdNum
  split
  · split
    · exact Int.le_refl _
    · exact numV_nn _
  · exact Int.le_refl _
theorem rN_nn (m : Int) (s : RSt) : 0 ≤ (rN m s).1 := by
  unfold rN
  split
  · split
    · exact rdNum_nn _ _
    · exact Int.le_refl _
  · exact Int.le_refl _
theorem rN_le (m : Int) (hm : 0 ≤ m) (s : RSt) : (rN m s).1 ≤ m := by
  unfold rN
  split
  · split
    · unfold rdNum
      split
      · split
        · exact hm
        · simp only; omega
      · exact hm
    · exact hm
  · exact hm
theorem rN_rest (m : Int) (s : RSt) : (∃ n, (rN m s).2.1 = s.1.drop n) ∨ (rN m s).2.1 = [] := by
  unfold rN
  split
  · split
    · exact .inl ⟨_, rfl⟩
    · exact .inr rfl
  · exact .inl ⟨0, rfl⟩
theorem rN_er (m : Int) (s : RSt) (he : s.2 ≠ 0 → s.1 = []) : (rN m s).2.2 ≠ 0 → (rN m s).2.1 = [] := by
  unfold rN
  split
  · split
    · intro h; exact absurd rfl h
    · intro _; rfl
  · exact he
variable {H0 H : Heap} {i : Nat} {s : RSt}
theorem PR.live (h : PR H0 i s H) : ∃ c, live H i = some [c, .int .i64 s.2, .bool true] ∧ c.shr0 = .sl .shr (bl s.1) := by
  obtain ⟨c, rfl, hc⟩ := h.ex
  exact ⟨c, live_set2 h.lt, hc⟩
theorem PR.next (h : PR H0 i s H) {s' : RSt} (hr : (∃ n, s'.1 = s.1.drop n) ∨ s'.1 = []) (he : s'.2 ≠ 0 → s'.1 = []) : PR H0 i s' (H.set i [.sl .shr (bl s'.1), .int .i64 s'.2, .bool true]) := by
  obtain ⟨c, rfl, hc⟩ := h.ex
  refine ⟨⟨_, List.set_set .., rfl⟩, h.lt, ?_, ?_, he⟩
  · rcases hr with ⟨n, hn⟩ | hn
    · rw [hn]; exact fun x hx => h.by_ x (List.mem_of_mem_drop hx)
    · rw [hn]; intro x hx; cases hx
  · rcases hr with ⟨n, hn⟩ | hn
    · rw [hn, List.length_drop]; have := h.len; omega
    · rw [hn]; simp
theorem PR.length (h : PR H0 i s H) : H.length = H0.length := by obtain ⟨c, rfl, hc⟩ := h.ex; exact List.length_set
theorem PR.num (h : PR H0 i s H) (m : Int) (hm : 0 ≤ m) : ∃ H', PR H0 i (rN m s).2 H' ∧ CT n_pack_Reader_Num [.ptr i 0, .int .i64 m] H = some ⟨.int .i64 (rN m s).1, H', false⟩ := by
  obtain ⟨b, e⟩ := s
  obtain ⟨c, hl, hc⟩ := h.live
  simp only at hl hc
  by_cases h0 : e = 0
  · subst h0
    refine ⟨_, h.next (rN_rest m (b, 0)) (rN_er m (b, 0) h.er), ?_⟩
    exact pk_Num hm hl hc h.len h.by_
  · have e1 : rN m (b, e) = (0, (b, e)) := by unfold rN; rw [if_neg h0]
    rw [e1]
    have hw := pk_works hl
    rw [show (e == 0) = false by simp [h0]] at hw
    refine ⟨H, h, ?_⟩
    refine callT_of rfl tab_pack_Reader_Num ?_
    simp (maxSteps := 4000000) only [↓set16, ↓sl16, zaa, zab, zac, zad, zz0, zz1, zz2, zz3, zz4, zae, zaf, zag, zah, zai, zaj, zak, zal, zam, zan, zao, zap, zaq, zar, zas, zat, zau, zav, zaw, zax, zay, zaz, zba, zbb, zbc, zbd, zbe, zbf, zbg, zbh, zbi, zbj, zbk, zbl, zbm, zbn, zbo, zbp, zbq, zbr, zbs, zbt, zbu, zbv, zbw, zbx, zby, zbz, zca, zcb, zcc, zcd, zce, zcf, zcg, zch, zci, zcj, zck, zcl, zcm, zcn, ne_eq, zco, zcp, zcq, zcr, zcs, List.replicate, zct, zcu, zcv, zcw, zcx, zcy, zcz, zda, zdb, zdc, zdd, zde, zdf, zdg, zdh, zdi, killT, delta, tak, ev, ad, taks, evs, nL, getH, pack, arith, callD, Nat.reduceAdd, Nat.reduceSub, Nat.reduceMul, Nat.reduceLeDiff, Nat.reduceEqDiff, Nat.reduceBEq, Nat.reduceBNe, Nat.reduceLT, Nat.reduceDiv, Int.reduceNeg, Int.reduceLT, Int.reduceLE, Int.reduceEq, Int.reduceNe, Int.reduceAdd, Int.reduceSub, Int.reduceMul, Int.reduceToNat, Int.reduceBEq, Int.reduceBNe, fillP, fillE, okE, okW, bound, elS, srcS, Fin, finish, ress, resOf, one, keeps, ↓reduceIte, Dl.ap, Dl.slots, okD, isLp, zeros, reduceCtorEq, zdj, zdk, tf_pack_Reader_Num, hw]
theorem PR.fail (h : PR H0 i s H) (x : Int) (hx : x ≠ 0) : ∃ H', PR H0 i (if s.2 = 0 then ([], x) else s) H' ∧ CT n_pack_Reader_Fail [.ptr i 0, .int .i64 x] H = some ⟨.tup [], H', false⟩ := by
  obtain ⟨b, e⟩ := s
  obtain ⟨c, hl, hc⟩ := h.live
  simp only at hl hc
  by_cases h0 : e = 0
  · subst h0
    rw [if_pos rfl]
    exact ⟨_, h.next (s' := ([], x)) (.inr rfl) (fun _ => rfl), pk_Fail hl hx⟩
  · rw [if_neg h0]
    have hw := pk_works hl
    rw [show (e == 0) = false by simp [h0]] at hw
    refine ⟨H, h, ?_⟩
    refine callT_of rfl tab_pack_Reader_Fail ?_
    simp (maxSteps := 4000000) only [↓set16, ↓sl16, zaa, zab, zac, zad, zz0, zz1, zz2, zz3, zz4, zae, zaf, zag, zah, zai, zaj, zak, zal, zam, zan, zao, zap, zaq, zar, zas, zat, zau, zav, zaw, zax, zay, zaz, zba, zbb, zbc, zbd, zbe, zbf, zbg, zbh, zbi, zbj, zbk, zbl, zbm, zbn, zbo, zbp, zbq, zbr, zbs, zbt, zbu, zbv, zbw, zbx, zby, zbz, zca, zcb, zcc, zcd, zce, zcf, zcg, zch, zci, zcj, zck, zcl, zcm, zcn, ne_eq, zco, zcp, zcq, zcr, zcs, List.replicate, zct, zcu, zcv, zcw, zcx, zcy, zcz, zda, zdb, zdc, zdd, zde, zdf, zdg, zdh, zdi, killT, delta, tak, ev, ad, taks, evs, nL, getH, pack, arith, callD, Nat.reduceAdd, Nat.reduceSub, Nat.reduceMul, Nat.reduceLeDiff, Nat.reduceEqDiff, Nat.reduceBEq, Nat.reduceBNe, Nat.reduceLT, Nat.reduceDiv, Int.reduceNeg, Int.reduceLT, Int.reduceLE, Int.reduceEq, Int.reduceNe, Int.reduceAdd, Int.reduceSub, Int.reduceMul, Int.reduceToNat, Int.reduceBEq, Int.reduceBNe, fillP, fillE, okE, okW, bound, elS, srcS, Fin, finish, ress, resOf, one, keeps, ↓reduceIte, Dl.ap, Dl.slots, okD, isLp, zeros, reduceCtorEq, zdj, zdk, tf_pack_Reader_Fail, hw]
theorem PR.text (h : PR H0 i s H) (m : Int) (hm : 0 ≤ m) : ∃ H', PR H0 i (rT m s).2 H' ∧ CT n_pack_Reader_Text [.ptr i 0, .int .i64 m] H = some ⟨.str (rT m s).1, H', false⟩ := by
  obtain ⟨H1, h1, hN⟩ := h.num m hm
  have hnn := rN_nn m s
  unfold rT
  generalize rN m s = r at *
  obtain ⟨n, b, e⟩ := r
  simp only at h1 hN hnn ⊢
  obtain ⟨c, hl, hc⟩ := h1.live
  simp only at hl hc
  have hw := pk_works hl
  have hlen : H1.length = H.length := by rw [h1.length, h.length]
  obtain ⟨k, rfl⟩ := Int.eq_ofNat_of_zero_le hnn
  have tl : ∀ (v : TV) (G : Heap) (kp : Bool), G.length = H.length → trim true H.length ⟨v, G, kp⟩ = ⟨v, G, kp⟩ := by
    intro v G kp hG; rw [← hG]; exact trim_refl
  by_cases h0 : e = 0
  rotate_left
  · rw [show (e == 0) = false by simp [h0]] at hw
    rw [if_pos h0]
    refine ⟨H1, h1, ?_⟩
    have ht := tl (.str ⟨#[]⟩) H1 false hlen
    refine callT_of rfl tab_pack_Reader_Text ?_
    simp (maxSteps := 4000000) only [↓set16, ↓sl16, zaa, zab, zac, zad, zz0, zz1, zz2, zz3, zz4, zae, zaf, zag, zah, zai, zaj, zak, zal, zam, zan, zao, zap, zaq, zar, zas, zat, zau, zav, zaw, zax, zay, zaz, zba, zbb, zbc, zbd, zbe, zbf, zbg, zbh, zbi, zbj, zbk, zbl, zbm, zbn, zbo, zbp, zbq, zbr, zbs, zbt, zbu, zbv, zbw, zbx, zby, zbz, zca, zcb, zcc, zcd, zce, zcf, zcg, zch, zci, zcj, zck, zcl, zcm, zcn, ne_eq, zco, zcp, zcq, zcr, zcs, List.replicate, zct, zcu, zcv, zcw, zcx, zcy, zcz, zda, zdb, zdc, zdd, zde, zdf, zdg, zdh, zdi, killT, delta, tak, ev, ad, taks, evs, nL, getH, pack, arith, callD, Nat.reduceAdd, Nat.reduceSub, Nat.reduceMul, Nat.reduceLeDiff, Nat.reduceEqDiff, Nat.reduceBEq, Nat.reduceBNe, Nat.reduceLT, Nat.reduceDiv, Int.reduceNeg, Int.reduceLT, Int.reduceLE, Int.reduceEq, Int.reduceNe, Int.reduceAdd, Int.reduceSub, Int.reduceMul, Int.reduceToNat, Int.reduceBEq, Int.reduceBNe, fillP, fillE, okE, okW, bound, elS, srcS, Fin, finish, ress, resOf, one, keeps, ↓reduceIte, Dl.ap, Dl.slots, okD, isLp, zeros, reduceCtorEq, zdj, zdk, tf_pack_Reader_Text, hN, hw, ht]
  subst h0
  rw [show ((0 : Int) == 0) = true from rfl] at hw
  rw [if_neg (by simp)]
  by_cases hk : (b.length : Int) < k
  · rw [if_pos hk]
    have hT := pk_take_short (n := k) hl hc (by omega)
    refine ⟨_, h1.next (s' := ([], 4)) (.inr rfl) (fun _ => rfl), ?_⟩
    have ht := tl (.str ⟨#[]⟩) (H1.set i [.sl .shr (bl []), .int .i64 4, .bool true]) false (by rw [List.length_set]; exact hlen)
    have e1 : bl [] = [] := rfl
    rw [e1] at ht ⊢
    have e2 : ((([] : List TV).map byteOf).toArray) = #[] := rfl
    refine callT_of rfl tab_pack_Reader_Text ?_
    simp (maxSteps := 4000000) only [↓set16, ↓sl16, zaa, zab, zac, zad, zz0, zz1, zz2, zz3, zz4, zae, zaf, zag, zah, zai, zaj, zak, zal, zam, zan, zao, zap, zaq, zar, zas, zat, zau, zav, zaw, zax, zay, zaz, zba, zbb, zbc, zbd, zbe, zbf, zbg, zbh, zbi, zbj, zbk, zbl, zbm, zbn, zbo, zbp, zbq, zbr, zbs, zbt, zbu, zbv, zbw, zbx, zby, zbz, zca, zcb, zcc, zcd, zce, zcf, zcg, zch, zci, zcj, zck, zcl, zcm, zcn, ne_eq, zco, zcp, zcq, zcr, zcs, List.replicate, zct, zcu, zcv, zcw, zcx, zcy, zcz, zda, zdb, zdc, zdd, zde, zdf, zdg, zdh, zdi, killT, delta, tak, ev, ad, taks, evs, nL, getH, pack, arith, callD, Nat.reduceAdd, Nat.reduceSub, Nat.reduceMul, Nat.reduceLeDiff, Nat.reduceEqDiff, Nat.reduceBEq, Nat.reduceBNe, Nat.reduceLT, Nat.reduceDiv, Int.reduceNeg, Int.reduceLT, Int.reduceLE, Int.reduceEq, Int.reduceNe, Int.reduceAdd, Int.reduceSub, Int.reduceMul, Int.reduceToNat, Int.reduceBEq, Int.reduceBNe, fillP, fillE, okE, okW, bound, elS, srcS, Fin, finish, ress, resOf, one, keeps, ↓reduceIte, Dl.ap, Dl.slots, okD, isLp, zeros, reduceCtorEq, zdj, zdk, tf_pack_Reader_Text, hN, hw, hT, ht]
  · rw [if_neg hk]
    have hT := pk_take (n := k) hl hc (by omega)
    simp only [Int.toNat_natCast]
    refine ⟨_, h1.next (s' := (b.drop k, 0)) (.inl ⟨k, rfl⟩) (fun h => absurd rfl h), ?_⟩
    have ht := tl (.str (strOf (b.take k))) (H1.set i [.sl .shr (bl (b.drop k)), .int .i64 0, .bool true]) false (by rw [List.length_set]; exact hlen)
    have hby := bl_byte (b.take k)
    unfold strOf at ht ⊢
    refine callT_of rfl tab_pack_Reader_Text ?_
    simp (maxSteps := 4000000) only [↓set16, ↓sl16, zaa, zab, zac, zad, zz0, zz1, zz2, zz3, zz4, zae, zaf, zag, zah, zai, zaj, zak, zal, zam, zan, zao, zap, zaq, zar, zas, zat, zau, zav, zaw, zax, zay, zaz, zba, zbb, zbc, zbd, zbe, zbf, zbg, zbh, zbi, zbj, zbk, zbl, zbm, zbn, zbo, zbp, zbq, zbr, zbs, zbt, zbu, zbv, zbw, zbx, zby, zbz, zca, zcb, zcc, zcd, zce, zcf, zcg, zch, zci, zcj, zck, zcl, zcm, zcn, ne_eq, zco, zcp, zcq, zcr, zcs, List.replicate, zct, zcu, zcv, zcw, zcx, zcy, zcz, zda, zdb, zdc, zdd, zde, zdf, zdg, zdh, zdi, killT, delta, tak, ev, ad, taks, evs, nL, getH, pack, arith, callD, Nat.reduceAdd, Nat.reduceSub, Nat.reduceMul, Nat.reduceLeDiff, Nat.reduceEqDiff, Nat.reduceBEq, Nat.reduceBNe, Nat.reduceLT, Nat.reduceDiv, Int.reduceNeg, Int.reduceLT, Int.reduceLE, Int.reduceEq, Int.reduceNe, Int.reduceAdd, Int.reduceSub, Int.reduceMul, Int.reduceToNat, Int.reduceBEq, Int.reduceBNe, fillP, fillE, okE, okW, bound, elS, srcS, Fin, finish, ress, resOf, one, keeps, ↓reduceIte, Dl.ap, Dl.slots, okD, isLp, zeros, reduceCtorEq, zdj, zdk, tf_pack_Reader_Text, hN, hw, hT, hby, ht]
theorem PR.err (h : PR H0 i s H) : CT n_pack_Reader_Err [.ptr i 0] H = some ⟨.int .i64 s.2, H, false⟩ := by
  obtain ⟨c, hl, hc⟩ := h.live
  refine callT_of rfl tab_pack_Reader_Err ?_
  simp (maxSteps := 4000000) only [↓set16, ↓sl16, zaa, zab, zac, zad, zz0, zz1, zz2, zz3, zz4, zae, zaf, zag, zah, zai, zaj, zak, zal, zam, zan, zao, zap, zaq, zar, zas, zat, zau, zav, zaw, zax, zay, zaz, zba, zbb, zbc, zbd, zbe, zbf, zbg, zbh, zbi, zbj, zbk, zbl, zbm, zbn, zbo, zbp, zbq, zbr, zbs, zbt, zbu, zbv, zbw, zbx, zby, zbz, zca, zcb, zcc, zcd, zce, zcf, zcg, zch, zci, zcj, zck, zcl, zcm, zcn, ne_eq, zco, zcp, zcq, zcr, zcs, List.replicate, zct, zcu, zcv, zcw, zcx, zcy, zcz, zda, zdb, zdc, zdd, zde, zdf, zdg, zdh, zdi, killT, delta, tak, ev, ad, taks, evs, nL, getH, pack, arith, callD, Nat.reduceAdd, Nat.reduceSub, Nat.reduceMul, Nat.reduceLeDiff, Nat.reduceEqDiff, Nat.reduceBEq, Nat.reduceBNe, Nat.reduceLT, Nat.reduceDiv, Int.reduceNeg, Int.reduceLT, Int.reduceLE, Int.reduceEq, Int.reduceNe, Int.reduceAdd, Int.reduceSub, Int.reduceMul, Int.reduceToNat, Int.reduceBEq, Int.reduceBNe, fillP, fillE, okE, okW, bound, elS, srcS, Fin, finish, ress, resOf, one, keeps, ↓reduceIte, Dl.ap, Dl.slots, okD, isLp, zeros, reduceCtorEq, zdj, zdk, tf_pack_Reader_Err, hl]
theorem PR.left (h : PR H0 i s H) : CT n_pack_Reader_Left [.ptr i 0] H = some ⟨.int .i64 s.1.length, H, false⟩ := by
  obtain ⟨c, hl, hc⟩ := h.live
  have hw := pk_works hl
  by_cases h0 : s.2 = 0
  · rw [show (s.2 == 0) = true by simp [h0]] at hw
    refine callT_of rfl tab_pack_Reader_Left ?_
    simp (maxSteps := 4000000) only [↓set16, ↓sl16, zaa, zab, zac, zad, zz0, zz1, zz2, zz3, zz4, zae, zaf, zag, zah, zai, zaj, zak, zal, zam, zan, zao, zap, zaq, zar, zas, zat, zau, zav, zaw, zax, zay, zaz, zba, zbb, zbc, zbd, zbe, zbf, zbg, zbh, zbi, zbj, zbk, zbl, zbm, zbn, zbo, zbp, zbq, zbr, zbs, zbt, zbu, zbv, zbw, zbx, zby, zbz, zca, zcb, zcc, zcd, zce, zcf, zcg, zch, zci, zcj, zck, zcl, zcm, zcn, ne_eq, zco, zcp, zcq, zcr, zcs, List.replicate, zct, zcu, zcv, zcw, zcx, zcy, zcz, zda, zdb, zdc, zdd, zde, zdf, zdg, zdh, zdi, killT, delta, tak, ev, ad, taks, evs, nL, getH, pack, arith, callD, Nat.reduceAdd, Nat.reduceSub, Nat.reduceMul, Nat.reduceLeDiff, Nat.reduceEqDiff, Nat.reduceBEq, Nat.reduceBNe, Nat.reduceLT, Nat.reduceDiv, Int.reduceNeg, Int.reduceLT, Int.reduceLE, Int.reduceEq, Int.reduceNe, Int.reduceAdd, Int.reduceSub, Int.reduceMul, Int.reduceToNat, Int.reduceBEq, Int.reduceBNe, fillP, fillE, okE, okW, bound, elS, srcS, Fin, finish, ress, resOf, one, keeps, ↓reduceIte, Dl.ap, Dl.slots, okD, isLp, zeros, reduceCtorEq, zdj, zdk, tf_pack_Reader_Left, hw, hl, hc, bl_len]
  · rw [show (s.2 == 0) = false by simp [h0]] at hw
    rw [h.er h0]
    refine callT_of rfl tab_pack_Reader_Left ?_
    simp (maxSteps := 4000000) only [↓set16, ↓sl16, zaa, zab, zac, zad, zz0, zz1, zz2, zz3, zz4, zae, zaf, zag, zah, zai, zaj, zak, zal, zam, zan, zao, zap, zaq, zar, zas, zat, zau, zav, zaw, zax, zay, zaz, zba, zbb, zbc, zbd, zbe, zbf, zbg, zbh, zbi, zbj, zbk, zbl, zbm, zbn, zbo, zbp, zbq, zbr, zbs, zbt, zbu, zbv, zbw, zbx, zby, zbz, zca, zcb, zcc, zcd, zce, zcf, zcg, zch, zci, zcj, zck, zcl, zcm, zcn, ne_eq, zco, zcp, zcq, zcr, zcs, List.replicate, zct, zcu, zcv, zcw, zcx, zcy, zcz, zda, zdb, zdc, zdd, zde, zdf, zdg, zdh, zdi, killT, delta, tak, ev, ad, taks, evs, nL, getH, pack, arith, callD, Nat.reduceAdd, Nat.reduceSub, Nat.reduceMul, Nat.reduceLeDiff, Nat.reduceEqDiff, Nat.reduceBEq, Nat.reduceBNe, Nat.reduceLT, Nat.reduceDiv, Int.reduceNeg, Int.reduceLT, Int.reduceLE, Int.reduceEq, Int.reduceNe, Int.reduceAdd, Int.reduceSub, Int.reduceMul, Int.reduceToNat, Int.reduceBEq, Int.reduceBNe, fillP, fillE, okE, okW, bound, elS, srcS, Fin, finish, ress, resOf, one, keeps, ↓reduceIte, Dl.ap, Dl.slots, okD, isLp, zeros, reduceCtorEq, zdj, zdk, tf_pack_Reader_Left, hw, show ((0 : Nat) : Int) = 0 from rfl]
theorem PR.end_ (h : PR H0 i s H) : CT n_pack_Reader_End [.ptr i 0] H = some ⟨.int .i64 (if 0 < (s.1.length : Int) then 3 else s.2), H, false⟩ := by
  have hL := h.left
  have hE := h.err
  by_cases h0 : 0 < (s.1.length : Int)
  · rw [if_pos h0]
    refine callT_of rfl tab_pack_Reader_End ?_
    simp (maxSteps := 4000000) only [↓set16, ↓sl16, zaa, zab, zac, zad, zz0, zz1, zz2, zz3, zz4, zae, zaf, zag, zah, zai, zaj, zak, zal, zam, zan, zao, zap, zaq, zar, zas, zat, zau, zav, zaw, zax, zay, zaz, zba, zbb, zbc, zbd, zbe, zbf, zbg, zbh, zbi, zbj, zbk, zbl, zbm, zbn, zbo, zbp, zbq, zbr, zbs, zbt, zbu, zbv, zbw, zbx, zby, zbz, zca, zcb, zcc, zcd, zce, zcf, zcg, zch, zci, zcj, zck, zcl, zcm, zcn, ne_eq, zco, zcp, zcq, zcr, zcs, List.replicate, zct, zcu, zcv, zcw, zcx, zcy, zcz, zda, zdb, zdc, zdd, zde, zdf, zdg, zdh, zdi, killT, delta, tak, ev, ad, taks, evs, nL, getH, pack, arith, callD, Nat.reduceAdd, Nat.reduceSub, Nat.reduceMul, Nat.reduceLeDiff, Nat.reduceEqDiff, Nat.reduceBEq, Nat.reduceBNe, Nat.reduceLT, Nat.reduceDiv, Int.reduceNeg, Int.reduceLT, Int.reduceLE, Int.reduceEq, Int.reduceNe, Int.reduceAdd, Int.reduceSub, Int.reduceMul, Int.reduceToNat, Int.reduceBEq, Int.reduceBNe, fillP, fillE, okE, okW, bound, elS, srcS, Fin, finish, ress, resOf, one, keeps, ↓reduceIte, Dl.ap, Dl.slots, okD, isLp, zeros, reduceCtorEq, zdj, zdk, tf_pack_Reader_End, hL, gt_iff_lt, h0]
  · rw [if_neg h0]
    refine callT_of rfl tab_pack_Reader_End ?_
    simp (maxSteps := 4000000) only [↓set16, ↓sl16, zaa, zab, zac, zad, zz0, zz1, zz2, zz3, zz4, zae, zaf, zag, zah, zai, zaj, zak, zal, zam, zan, zao, zap, zaq, zar, zas, zat, zau, zav, zaw, zax, zay, zaz, zba, zbb, zbc, zbd, zbe, zbf, zbg, zbh, zbi, zbj, zbk, zbl, zbm, zbn, zbo, zbp, zbq, zbr, zbs, zbt, zbu, zbv, zbw, zbx, zby, zbz, zca, zcb, zcc, zcd, zce, zcf, zcg, zch, zci, zcj, zck, zcl, zcm, zcn, ne_eq, zco, zcp, zcq, zcr, zcs, List.replicate, zct, zcu, zcv, zcw, zcx, zcy, zcz, zda, zdb, zdc, zdd, zde, zdf, zdg, zdh, zdi, killT, delta, tak, ev, ad, taks, evs, nL, getH, pack, arith, callD, Nat.reduceAdd, Nat.reduceSub, Nat.reduceMul, Nat.reduceLeDiff, Nat.reduceEqDiff, Nat.reduceBEq, Nat.reduceBNe, Nat.reduceLT, Nat.reduceDiv, Int.reduceNeg, Int.reduceLT, Int.reduceLE, Int.reduceEq, Int.reduceNe, Int.reduceAdd, Int.reduceSub, Int.reduceMul, Int.reduceToNat, Int.reduceBEq, Int.reduceBNe, fillP, fillE, okE, okW, bound, elS, srcS, Fin, finish, ress, resOf, one, keeps, ↓reduceIte, Dl.ap, Dl.slots, okD, isLp, zeros, reduceCtorEq, zdj, zdk, tf_pack_Reader_End, hL, gt_iff_lt, h0, hE]
theorem pack_Open (b : List Int) (hb : b.length ≤ 4000000) : CT n_pack_Open [.sl .shr (bl b)] H = some ⟨.ptr H.length 0, H ++ [[.sl .shr (bl b), .int .i64 0, .bool true]], false⟩ := by
  have hR := pack_room (H := H) b 0 (by omega) (by omega)
  have ht := trim_out (fz := true) (v := .ptr H.length 0) (h := H ++ [[.sl .shr (bl b), .int .i64 0, .bool true]]) (b := H.length) (k := false) rfl (by simp [TV.lt])
  refine callT_of rfl tab_pack_Open ?_
  simp (maxSteps := 4000000) only [↓set16, ↓sl16, zaa, zab, zac, zad, zz0, zz1, zz2, zz3, zz4, zae, zaf, zag, zah, zai, zaj, zak, zal, zam, zan, zao, zap, zaq, zar, zas, zat, zau, zav, zaw, zax, zay, zaz, zba, zbb, zbc, zbd, zbe, zbf, zbg, zbh, zbi, zbj, zbk, zbl, zbm, zbn, zbo, zbp, zbq, zbr, zbs, zbt, zbu, zbv, zbw, zbx, zby, zbz, zca, zcb, zcc, zcd, zce, zcf, zcg, zch, zci, zcj, zck, zcl, zcm, zcn, ne_eq, zco, zcp, zcq, zcr, zcs, List.replicate, zct, zcu, zcv, zcw, zcx, zcy, zcz, zda, zdb, zdc, zdd, zde, zdf, zdg, zdh, zdi, killT, delta, tak, ev, ad, taks, evs, nL, getH, pack, arith, callD, Nat.reduceAdd, Nat.reduceSub, Nat.reduceMul, Nat.reduceLeDiff, Nat.reduceEqDiff, Nat.reduceBEq, Nat.reduceBNe, Nat.reduceLT, Nat.reduceDiv, Int.reduceNeg, Int.reduceLT, Int.reduceLE, Int.reduceEq, Int.reduceNe, Int.reduceAdd, Int.reduceSub, Int.reduceMul, Int.reduceToNat, Int.reduceBEq, Int.reduceBNe, fillP, fillE, okE, okW, bound, elS, srcS, Fin, finish, ress, resOf, one, keeps, ↓reduceIte, Dl.ap, Dl.slots, okD, isLp, zeros, reduceCtorEq, zdj, zdk, tf_pack_Open, hR, ht]
theorem PR.open_ (b : List Int) (hb : b.length ≤ 4000000) (hby : ∀ x ∈ b, 0 ≤ x ∧ x ≤ 255) : PR (H ++ [[.sl .shr (bl b), .int .i64 0, .bool true]]) H.length (b, 0) (H ++ [[.sl .shr (bl b), .int .i64 0, .bool true]]) := by
  refine ⟨⟨.sl .shr (bl b), by rw [set_end], rfl⟩, by simp, hby, hb, fun h => absurd rfl h⟩
end Go.T
