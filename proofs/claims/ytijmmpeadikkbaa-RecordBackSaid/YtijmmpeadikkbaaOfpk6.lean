/- What the document's reader answers, by its state. -/
import Derived.Test.YtijmmpeadikkbaaOfpk5
set_option linter.unusedVariables false
set_option linter.unusedSimpArgs false
set_option maxRecDepth 10000
set_option maxHeartbeats 1000000
namespace Go.T
attribute [local irreducible] Run Back RS Ap
/-- A reader of the document's, in a box. -/
structure RR (H0 : Heap) (i : Nat) (s : RSt) (H : Heap) : Prop where
  ex : ∃ c, H = H0.set i [c, .int .i64 s.2] ∧ c.shr0 = .sl .shr (bl s.1)
  lt : i < H0.length
  by_ : ∀ x ∈ s.1, 0 ≤ x ∧ x ≤ 255
  len : s.1.length ≤ 4000000
  er : s.2 ≠ 0 → s.1 = []
variable {H0 H : Heap} {i : Nat} {s : RSt}
theorem rf_Fail_e {c : TV} {e x : Int} (hl : live H i = some [c, .int .i64 e]) (he : e ≠ 0) : CT n_ref02_Reader_Fail [.ptr i 0, .int .i64 x] H = some ⟨.tup [], H.set i [.sl .shr [], .int .i64 e], false⟩ := by
  have hi := live_lt hl
  have hg := getD_live hl
  have hb : (e == 0) = false := by simp [he]
  have hb2 : (e != 0) = true := by simp [he]
  refine callT_of rfl tab_ref02_Reader_Fail ?_
  simp (maxSteps := 4000000) only [↓set16, ↓sl16, zaa, zab, zac, zad, zz0, zz1, zz2, zz3, zz4, zae, zaf, zag, zah, zai, zaj, zak, zal, zam, zan, zao, zap, zaq, zar, zas, zat, zau, zav, zaw, zax, zay, zaz, zba, zbb, zbc, zbd, zbe, zbf, zbg, zbh, zbi, zbj, zbk, zbl, zbm, zbn, zbo, zbp, zbq, zbr, zbs, zbt, zbu, zbv, zbw, zbx, zby, zbz, zca, zcb, zcc, zcd, zce, zcf, zcg, zch, zci, zcj, zck, zcl, zcm, zcn, ne_eq, zco, zcp, zcq, zcr, zcs, List.replicate, zct, zcu, zcv, zcw, zcx, zcy, zcz, zda, zdb, zdc, zdd, zde, zdf, zdg, zdh, zdi, killT, delta, tak, ev, ad, taks, evs, nL, getH, pack, arith, callD, Nat.reduceAdd, Nat.reduceSub, Nat.reduceMul, Nat.reduceLeDiff, Nat.reduceEqDiff, Nat.reduceBEq, Nat.reduceBNe, Nat.reduceLT, Nat.reduceDiv, Int.reduceNeg, Int.reduceLT, Int.reduceLE, Int.reduceEq, Int.reduceNe, Int.reduceAdd, Int.reduceSub, Int.reduceMul, Int.reduceToNat, Int.reduceBEq, Int.reduceBNe, fillP, fillE, okE, okW, bound, elS, srcS, Fin, finish, ress, resOf, one, keeps, ↓reduceIte, Dl.ap, Dl.slots, okD, isLp, zeros, reduceCtorEq, zdj, zdk, tf_ref02_Reader_Fail, jn_ref02_Reader_Fail_1, hl, hb, hb2, live_set2 hi, hg, List.set_set, lts_i, TV.lts, TV.lt, BEq.rfl]
theorem RR.live (h : RR H0 i s H) : ∃ c, live H i = some [c, .int .i64 s.2] ∧ c.shr0 = .sl .shr (bl s.1) := by
  obtain ⟨c, rfl, hc⟩ := h.ex
  exact ⟨c, live_set2 h.lt, hc⟩
theorem RR.next (h : RR H0 i s H) {s' : RSt} (hr : (∃ n, s'.1 = s.1.drop n) ∨ s'.1 = []) (he : s'.2 ≠ 0 → s'.1 = []) : RR H0 i s' (H.set i [.sl .shr (bl s'.1), .int .i64 s'.2]) := by
  obtain ⟨c, rfl, hc⟩ := h.ex
  refine ⟨⟨_, List.set_set .., rfl⟩, h.lt, ?_, ?_, he⟩
  · rcases hr with ⟨n, hn⟩ | hn
    · rw [hn]; exact fun x hx => h.by_ x (List.mem_of_mem_drop hx)
    · rw [hn]; intro x hx; cases hx
  · rcases hr with ⟨n, hn⟩ | hn
    · rw [hn, List.length_drop]; have := h.len; omega
    · rw [hn]; simp
theorem RR.length (h : RR H0 i s H) : H.length = H0.length := by obtain ⟨c, rfl, hc⟩ := h.ex; exact List.length_set
theorem RR.num (h : RR H0 i s H) (m : Int) (hm : 0 ≤ m) : ∃ H', RR H0 i (rN m s).2 H' ∧ CT n_ref02_Reader_Num [.ptr i 0, .int .i64 m] H = some ⟨.int .i64 (rN m s).1, H', false⟩ := by
  obtain ⟨b, e⟩ := s
  obtain ⟨c, hl, hc⟩ := h.live
  simp only at hl hc
  by_cases h0 : e = 0
  · subst h0
    exact ⟨_, h.next (rN_rest m (b, 0)) (rN_er m (b, 0) h.er), rf_Num hm hl hc h.len h.by_⟩
  · have e1 : rN m (b, e) = (0, (b, e)) := by unfold rN; rw [if_neg h0]
    rw [e1]
    have hb : (e == 0) = false := by simp [h0]
    refine ⟨H, h, ?_⟩
    refine callT_of rfl tab_ref02_Reader_Num ?_
    simp (maxSteps := 4000000) only [↓set16, ↓sl16, zaa, zab, zac, zad, zz0, zz1, zz2, zz3, zz4, zae, zaf, zag, zah, zai, zaj, zak, zal, zam, zan, zao, zap, zaq, zar, zas, zat, zau, zav, zaw, zax, zay, zaz, zba, zbb, zbc, zbd, zbe, zbf, zbg, zbh, zbi, zbj, zbk, zbl, zbm, zbn, zbo, zbp, zbq, zbr, zbs, zbt, zbu, zbv, zbw, zbx, zby, zbz, zca, zcb, zcc, zcd, zce, zcf, zcg, zch, zci, zcj, zck, zcl, zcm, zcn, ne_eq, zco, zcp, zcq, zcr, zcs, List.replicate, zct, zcu, zcv, zcw, zcx, zcy, zcz, zda, zdb, zdc, zdd, zde, zdf, zdg, zdh, zdi, killT, delta, tak, ev, ad, taks, evs, nL, getH, pack, arith, callD, Nat.reduceAdd, Nat.reduceSub, Nat.reduceMul, Nat.reduceLeDiff, Nat.reduceEqDiff, Nat.reduceBEq, Nat.reduceBNe, Nat.reduceLT, Nat.reduceDiv, Int.reduceNeg, Int.reduceLT, Int.reduceLE, Int.reduceEq, Int.reduceNe, Int.reduceAdd, Int.reduceSub, Int.reduceMul, Int.reduceToNat, Int.reduceBEq, Int.reduceBNe, fillP, fillE, okE, okW, bound, elS, srcS, Fin, finish, ress, resOf, one, keeps, ↓reduceIte, Dl.ap, Dl.slots, okD, isLp, zeros, reduceCtorEq, zdj, zdk, tf_ref02_Reader_Num, Run_loop, lp_ref02_Reader_Num_1, hl, hb]
theorem RR.fail (h : RR H0 i s H) (x : Int) (hx : x ≠ 0) : ∃ H', RR H0 i (if s.2 = 0 then ([], x) else s) H' ∧ CT n_ref02_Reader_Fail [.ptr i 0, .int .i64 x] H = some ⟨.tup [], H', false⟩ := by
  obtain ⟨b, e⟩ := s
  obtain ⟨c, hl, hc⟩ := h.live
  simp only at hl hc
  by_cases h0 : e = 0
  · subst h0
    rw [if_pos rfl]
    exact ⟨_, h.next (s' := ([], x)) (.inr rfl) (fun _ => rfl), rf_Fail hl hx⟩
  · rw [if_neg h0]
    have hb : b = [] := h.er h0
    subst hb
    exact ⟨_, h.next (s' := ([], e)) (.inr rfl) (fun _ => rfl), rf_Fail_e hl h0⟩
theorem RR.err (h : RR H0 i s H) : CT n_ref02_Reader_Err [.ptr i 0] H = some ⟨.int .i64 s.2, H, false⟩ := by
  obtain ⟨c, hl, hc⟩ := h.live
  refine callT_of rfl tab_ref02_Reader_Err ?_
  simp (maxSteps := 4000000) only [↓set16, ↓sl16, zaa, zab, zac, zad, zz0, zz1, zz2, zz3, zz4, zae, zaf, zag, zah, zai, zaj, zak, zal, zam, zan, zao, zap, zaq, zar, zas, zat, zau, zav, zaw, zax, zay, zaz, zba, zbb, zbc, zbd, zbe, zbf, zbg, zbh, zbi, zbj, zbk, zbl, zbm, zbn, zbo, zbp, zbq, zbr, zbs, zbt, zbu, zbv, zbw, zbx, zby, zbz, zca, zcb, zcc, zcd, zce, zcf, zcg, zch, zci, zcj, zck, zcl, zcm, zcn, ne_eq, zco, zcp, zcq, zcr, zcs, List.replicate, zct, zcu, zcv, zcw, zcx, zcy, zcz, zda, zdb, zdc, zdd, zde, zdf, zdg, zdh, zdi, killT, delta, tak, ev, ad, taks, evs, nL, getH, pack, arith, callD, Nat.reduceAdd, Nat.reduceSub, Nat.reduceMul, Nat.reduceLeDiff, Nat.reduceEqDiff, Nat.reduceBEq, Nat.reduceBNe, Nat.reduceLT, Nat.reduceDiv, Int.reduceNeg, Int.reduceLT, Int.reduceLE, Int.reduceEq, Int.reduceNe, Int.reduceAdd, Int.reduceSub, Int.reduceMul, Int.reduceToNat, Int.reduceBEq, Int.reduceBNe, fillP, fillE, okE, okW, bound, elS, srcS, Fin, finish, ress, resOf, one, keeps, ↓reduceIte, Dl.ap, Dl.slots, okD, isLp, zeros, reduceCtorEq, zdj, zdk, tf_ref02_Reader_Err, hl]
theorem RR.left (h : RR H0 i s H) : CT n_ref02_Reader_Left [.ptr i 0] H = some ⟨.int .i64 s.1.length, H, false⟩ := by
  obtain ⟨c, hl, hc⟩ := h.live
  refine callT_of rfl tab_ref02_Reader_Left ?_
  simp (maxSteps := 4000000) only [↓set16, ↓sl16, zaa, zab, zac, zad, zz0, zz1, zz2, zz3, zz4, zae, zaf, zag, zah, zai, zaj, zak, zal, zam, zan, zao, zap, zaq, zar, zas, zat, zau, zav, zaw, zax, zay, zaz, zba, zbb, zbc, zbd, zbe, zbf, zbg, zbh, zbi, zbj, zbk, zbl, zbm, zbn, zbo, zbp, zbq, zbr, zbs, zbt, zbu, zbv, zbw, zbx, zby, zbz, zca, zcb, zcc, zcd, zce, zcf, zcg, zch, zci, zcj, zck, zcl, zcm, zcn, ne_eq, zco, zcp, zcq, zcr, zcs, List.replicate, zct, zcu, zcv, zcw, zcx, zcy, zcz, zda, zdb, zdc, zdd, zde, zdf, zdg, zdh, zdi, killT, delta, tak, ev, ad, taks, evs, nL, getH, pack, arith, callD, Nat.reduceAdd, Nat.reduceSub, Nat.reduceMul, Nat.reduceLeDiff, Nat.reduceEqDiff, Nat.reduceBEq, Nat.reduceBNe, Nat.reduceLT, Nat.reduceDiv, Int.reduceNeg, Int.reduceLT, Int.reduceLE, Int.reduceEq, Int.reduceNe, Int.reduceAdd, Int.reduceSub, Int.reduceMul, Int.reduceToNat, Int.reduceBEq, Int.reduceBNe, fillP, fillE, okE, okW, bound, elS, srcS, Fin, finish, ress, resOf, one, keeps, ↓reduceIte, Dl.ap, Dl.slots, okD, isLp, zeros, reduceCtorEq, zdj, zdk, tf_ref02_Reader_Left, hl, hc, bl_len]
theorem RR.text (h : RR H0 i s H) (m : Int) (hm : 0 ≤ m) : ∃ H', RR H0 i (rT m s).2 H' ∧ CT n_ref02_Reader_Text [.ptr i 0, .int .i64 m] H = some ⟨.str (rT m s).1, H', false⟩ := by
  obtain ⟨H1, h1, hN⟩ := h.num m hm
  have hnn := rN_nn m s
  unfold rT
  generalize rN m s = r at *
  obtain ⟨n, b, e⟩ := r
  simp only at h1 hN hnn ⊢
  obtain ⟨c, hl, hc⟩ := h1.live
  simp only at hl hc
  have hi := live_lt hl
  have hgd := getD_live hl
  have hlen : H1.length = H.length := by rw [h1.length, h.length]
  obtain ⟨k, rfl⟩ := Int.eq_ofNat_of_zero_le hnn
  have tl : ∀ (v : TV) (G : Heap) (kp : Bool), G.length = H.length → trim true H.length ⟨v, G, kp⟩ = ⟨v, G, kp⟩ := by
    intro v G kp hG; rw [← hG]; exact trim_refl
  by_cases h0 : e = 0
  rotate_left
  · have hb : (e == 0) = false := by simp [h0]
    have hb2 : (e != 0) = true := by simp [h0]
    rw [if_pos h0]
    refine ⟨H1, h1, ?_⟩
    have ht := tl (.str ⟨#[]⟩) H1 false hlen
    refine callT_of rfl tab_ref02_Reader_Text ?_
    simp (maxSteps := 4000000) only [↓set16, ↓sl16, zaa, zab, zac, zad, zz0, zz1, zz2, zz3, zz4, zae, zaf, zag, zah, zai, zaj, zak, zal, zam, zan, zao, zap, zaq, zar, zas, zat, zau, zav, zaw, zax, zay, zaz, zba, zbb, zbc, zbd, zbe, zbf, zbg, zbh, zbi, zbj, zbk, zbl, zbm, zbn, zbo, zbp, zbq, zbr, zbs, zbt, zbu, zbv, zbw, zbx, zby, zbz, zca, zcb, zcc, zcd, zce, zcf, zcg, zch, zci, zcj, zck, zcl, zcm, zcn, ne_eq, zco, zcp, zcq, zcr, zcs, List.replicate, zct, zcu, zcv, zcw, zcx, zcy, zcz, zda, zdb, zdc, zdd, zde, zdf, zdg, zdh, zdi, killT, delta, tak, ev, ad, taks, evs, nL, getH, pack, arith, callD, Nat.reduceAdd, Nat.reduceSub, Nat.reduceMul, Nat.reduceLeDiff, Nat.reduceEqDiff, Nat.reduceBEq, Nat.reduceBNe, Nat.reduceLT, Nat.reduceDiv, Int.reduceNeg, Int.reduceLT, Int.reduceLE, Int.reduceEq, Int.reduceNe, Int.reduceAdd, Int.reduceSub, Int.reduceMul, Int.reduceToNat, Int.reduceBEq, Int.reduceBNe, fillP, fillE, okE, okW, bound, elS, srcS, Fin, finish, ress, resOf, one, keeps, ↓reduceIte, Dl.ap, Dl.slots, okD, isLp, zeros, reduceCtorEq, zdj, zdk, tf_ref02_Reader_Text, jn_ref02_Reader_Text_1, hN, hl, hb, hb2, ht]
  subst h0
  rw [if_neg (by simp)]
  by_cases hk : (b.length : Int) < k
  · rw [if_pos hk]
    have hF := rf_Fail (x := 4) hl (by decide)
    have hL4 : Go.T.live (H1.set i [.sl .shr [], .int .i64 4]) i = some [.sl .shr [], .int .i64 4] := live_set2 hi
    refine ⟨_, h1.next (s' := ([], 4)) (.inr rfl) (fun _ => rfl), ?_⟩
    have ht := tl (.str ⟨#[]⟩) (H1.set i [.sl .shr (bl []), .int .i64 4]) false (by rw [List.length_set]; exact hlen)
    have e1 : bl [] = [] := rfl
    rw [e1] at ht ⊢
    refine callT_of rfl tab_ref02_Reader_Text ?_
    simp (maxSteps := 4000000) only [↓set16, ↓sl16, zaa, zab, zac, zad, zz0, zz1, zz2, zz3, zz4, zae, zaf, zag, zah, zai, zaj, zak, zal, zam, zan, zao, zap, zaq, zar, zas, zat, zau, zav, zaw, zax, zay, zaz, zba, zbb, zbc, zbd, zbe, zbf, zbg, zbh, zbi, zbj, zbk, zbl, zbm, zbn, zbo, zbp, zbq, zbr, zbs, zbt, zbu, zbv, zbw, zbx, zby, zbz, zca, zcb, zcc, zcd, zce, zcf, zcg, zch, zci, zcj, zck, zcl, zcm, zcn, ne_eq, zco, zcp, zcq, zcr, zcs, List.replicate, zct, zcu, zcv, zcw, zcx, zcy, zcz, zda, zdb, zdc, zdd, zde, zdf, zdg, zdh, zdi, killT, delta, tak, ev, ad, taks, evs, nL, getH, pack, arith, callD, Nat.reduceAdd, Nat.reduceSub, Nat.reduceMul, Nat.reduceLeDiff, Nat.reduceEqDiff, Nat.reduceBEq, Nat.reduceBNe, Nat.reduceLT, Nat.reduceDiv, Int.reduceNeg, Int.reduceLT, Int.reduceLE, Int.reduceEq, Int.reduceNe, Int.reduceAdd, Int.reduceSub, Int.reduceMul, Int.reduceToNat, Int.reduceBEq, Int.reduceBNe, fillP, fillE, okE, okW, bound, elS, srcS, Fin, finish, ress, resOf, one, keeps, ↓reduceIte, Dl.ap, Dl.slots, okD, isLp, zeros, reduceCtorEq, zdj, zdk, tf_ref02_Reader_Text, jn_ref02_Reader_Text_1, hN, hl, hc, bl_len, gt_iff_lt, hk, hF, hL4, BEq.rfl, show ((4 : Int) != 0) = true from rfl, ht]
  · rw [if_neg hk]
    simp only [Int.toNat_natCast]
    refine ⟨_, h1.next (s' := (b.drop k, 0)) (.inl ⟨k, rfl⟩) (fun h => absurd rfl h), ?_⟩
    have ht := tl (.str (strOf (b.take k))) (H1.set i [.sl .shr (bl (b.drop k)), .int .i64 0]) false (by rw [List.length_set]; exact hlen)
    have hby := bl_byte (b.take k)
    have q0 : (0 : Int) ≤ k := by omega
    have q1 : (k : Int) ≤ b.length := by omega
    have okw := bl_okW b
    have ebt : (bl b).take b.length = bl b := by rw [← bl_len b, List.take_length]
    unfold strOf at ht ⊢
    refine callT_of rfl tab_ref02_Reader_Text ?_
    simp (maxSteps := 4000000) only [↓set16, ↓sl16, zaa, zab, zac, zad, zz0, zz1, zz2, zz3, zz4, zae, zaf, zag, zah, zai, zaj, zak, zal, zam, zan, zao, zap, zaq, zar, zas, zat, zau, zav, zaw, zax, zay, zaz, zba, zbb, zbc, zbd, zbe, zbf, zbg, zbh, zbi, zbj, zbk, zbl, zbm, zbn, zbo, zbp, zbq, zbr, zbs, zbt, zbu, zbv, zbw, zbx, zby, zbz, zca, zcb, zcc, zcd, zce, zcf, zcg, zch, zci, zcj, zck, zcl, zcm, zcn, ne_eq, zco, zcp, zcq, zcr, zcs, List.replicate, zct, zcu, zcv, zcw, zcx, zcy, zcz, zda, zdb, zdc, zdd, zde, zdf, zdg, zdh, zdi, killT, delta, tak, ev, ad, taks, evs, nL, getH, pack, arith, callD, Nat.reduceAdd, Nat.reduceSub, Nat.reduceMul, Nat.reduceLeDiff, Nat.reduceEqDiff, Nat.reduceBEq, Nat.reduceBNe, Nat.reduceLT, Nat.reduceDiv, Int.reduceNeg, Int.reduceLT, Int.reduceLE, Int.reduceEq, Int.reduceNe, Int.reduceAdd, Int.reduceSub, Int.reduceMul, Int.reduceToNat, Int.reduceBEq, Int.reduceBNe, fillP, fillE, okE, okW, bound, elS, srcS, Fin, finish, ress, resOf, one, keeps, ↓reduceIte, Dl.ap, Dl.slots, okD, isLp, zeros, reduceCtorEq, zdj, zdk, tf_ref02_Reader_Text, jn_ref02_Reader_Text_1, hN, hl, hc, bl_len, gt_iff_lt, hk, BEq.rfl, bne_self_eq_false, q0, q1, okw, ebt, bl_drop, bl_take, Int.toNat_natCast, hby, hgd, lts_i, TV.lts, TV.lt, bl_lts, ht]
theorem ref02_Open (b : List Int) (hb : b.length ≤ 4000000) : CT n_ref02_Open [.sl .shr (bl b)] H = some ⟨.ptr H.length 0, H ++ [[.sl .shr (bl b), .int .i64 0]], false⟩ := by
  have hR := ref02_copied (H := H) b (by omega)
  have ht := trim_out (fz := true) (v := .ptr H.length 0) (h := H ++ [[.sl .shr (bl b), .int .i64 0]]) (b := H.length) (k := false) rfl (by simp [TV.lt])
  refine callT_of rfl tab_ref02_Open ?_
  simp (maxSteps := 4000000) only [↓set16, ↓sl16, zaa, zab, zac, zad, zz0, zz1, zz2, zz3, zz4, zae, zaf, zag, zah, zai, zaj, zak, zal, zam, zan, zao, zap, zaq, zar, zas, zat, zau, zav, zaw, zax, zay, zaz, zba, zbb, zbc, zbd, zbe, zbf, zbg, zbh, zbi, zbj, zbk, zbl, zbm, zbn, zbo, zbp, zbq, zbr, zbs, zbt, zbu, zbv, zbw, zbx, zby, zbz, zca, zcb, zcc, zcd, zce, zcf, zcg, zch, zci, zcj, zck, zcl, zcm, zcn, ne_eq, zco, zcp, zcq, zcr, zcs, List.replicate, zct, zcu, zcv, zcw, zcx, zcy, zcz, zda, zdb, zdc, zdd, zde, zdf, zdg, zdh, zdi, killT, delta, tak, ev, ad, taks, evs, nL, getH, pack, arith, callD, Nat.reduceAdd, Nat.reduceSub, Nat.reduceMul, Nat.reduceLeDiff, Nat.reduceEqDiff, Nat.reduceBEq, Nat.reduceBNe, Nat.reduceLT, Nat.reduceDiv, Int.reduceNeg, Int.reduceLT, Int.reduceLE, Int.reduceEq, Int.reduceNe, Int.reduceAdd, Int.reduceSub, Int.reduceMul, Int.reduceToNat, Int.reduceBEq, Int.reduceBNe, fillP, fillE, okE, okW, bound, elS, srcS, Fin, finish, ress, resOf, one, keeps, ↓reduceIte, Dl.ap, Dl.slots, okD, isLp, zeros, reduceCtorEq, zdj, zdk, tf_ref02_Open, hR, ht]
theorem RR.open_ (b : List Int) (hb : b.length ≤ 4000000) (hby : ∀ x ∈ b, 0 ≤ x ∧ x ≤ 255) : RR (H ++ [[.sl .shr (bl b), .int .i64 0]]) H.length (b, 0) (H ++ [[.sl .shr (bl b), .int .i64 0]]) := by
  refine ⟨⟨.sl .shr (bl b), by rw [set_end], rfl⟩, by simp, hby, hb, fun h => absurd rfl h⟩
end Go.T
