/- What the pack's writers answer. -/
import Derived.Test.YtijmmpeadikkbaaOfbase
import Derived.Test.YtijmmpeadikkbaaOpkp
set_option linter.unusedVariables false
set_option linter.unusedSimpArgs false
set_option maxRecDepth 10000
set_option maxHeartbeats 1000000
namespace Go.T
attribute [local irreducible] Run Back RS Ap
variable {H : Heap}
/-- Bytes, as numbers. -/
def bl (l : List Int) : List TV := l.map (TV.int .u8)
theorem bl_len (l : List Int) : (bl l).length = l.length := by simp [bl]
theorem bl_app (a b : List Int) : bl (a ++ b) = bl a ++ bl b := by simp [bl]
theorem bl_okW (l : List Int) : ((bl l).all fun e => e.cells.length == 1) = true := by simp [bl, TV.cells]
theorem bl_okW' (l : List Int) : okW 1 (bl l) = true := bl_okW l
theorem bl_flat (l : List Int) : flat (bl l) = bl l := by
  induction l with
  | nil => rfl
  | cons a l ih => simp only [bl, List.map_cons, flat, List.flatMap_cons] at ih ⊢; rw [ih]; rfl
theorem bl_shr0 (l : List Int) : (bl l).map TV.shr0 = bl l := by simp [bl, TV.shr0, Function.comp_def]
theorem bl_elt (l : List Int) : (bl l).all TV.isElt = true := by simp [bl, TV.isElt, TV.isCell]
theorem bl_lts (n : Nat) (l : List Int) : TV.lts n (bl l) = true := by
  induction l with
  | nil => rfl
  | cons a l ih => simp only [bl, List.map_cons, TV.lts, TV.lt, Bool.true_and] at ih ⊢; exact ih
theorem bl_byte (l : List Int) : (bl l).all isByte = true := by simp [bl, isByte]
theorem bl_take (n : Nat) (l : List Int) : (bl l).take n = bl (l.take n) := by simp [bl]
theorem bl_drop (n : Nat) (l : List Int) : (bl l).drop n = bl (l.drop n) := by simp [bl]
theorem bl_get {l : List Int} {k : Nat} {x : Int} (h : l[k]? = some x) : (bl l)[k]? = some (.int .u8 x) := map_get h
theorem regroup_take (n : Nat) : ∀ (l : List TV), n ≤ l.length → regroup false 1 n l = l.take n := by
  induction n with
  | zero => intro l _; rfl
  | succ n ih =>
    intro l h
    cases l with
    | nil => simp at h
    | cons a l => rw [List.length_cons] at h; simp only [regroup, List.drop_succ_cons, List.drop_zero, List.take_succ_cons, List.take_zero]; rw [ih l (by omega)]; rfl
theorem bl_rep (n : Nat) : List.replicate n (TV.int .u8 0) = bl (List.replicate n 0) := by simp [bl]
theorem bl_dead (l : List Int) : dead (bl l) = false := by
  cases l with
  | nil => rfl
  | cons a l => cases l <;> rfl
/-- A row of bytes that was made, frozen. -/
theorem frz_bl {H' : Heap} {b j : Nat} (hj : b ≤ j) (l : List Int) (z : List Int) (hb : live H' j = some (bl (l ++ z))) : frzC H' b (.asl false 1 j 0 l.length) = .sl (.own 1 false) (bl l) := by
  have h1 : (bl (l ++ z)).take (l.length * 1) = bl l := by rw [Nat.mul_one, bl_take, List.take_left]
  have h3 : l.length * 1 ≤ (bl (l ++ z)).length := by rw [bl_len, List.length_append]; omega
  have h4 : regroup false 1 l.length (bl (l ++ z)) = bl l := by rw [regroup_take _ _ (by rw [bl_len, List.length_append]; omega), bl_take, List.take_left]
  simp only [frzC, hb, h1, bl_shr0, bl_elt, hj, h3, h4, and_true, true_and, if_true, or_true, show (0 : Nat) < 1 by decide]
theorem bl_trim (l z : List Int) : trim true H.length ⟨.asl false 1 H.length 0 l.length, H ++ [bl (l ++ z)], false⟩ = ⟨.sl (.own 1 false) (bl l), H, false⟩ := by
  have hb : live (H ++ [bl (l ++ z)]) H.length = some (bl (l ++ z)) := live_app_eq (bl_dead _)
  have hf := frz_bl (Nat.le_refl H.length) l z hb
  have hlen : (H ++ [bl (l ++ z)]).length ≠ H.length := by simp
  unfold trim
  simp only [hlen, if_false, Bool.false_eq_true, rowT, rowA, rowC, frzT, frzA, hf, Nat.le_refl, if_true, List.length_cons, List.length_nil, Bool.true_and, decide_true, TV.lt, bl_lts, List.take_left, Nat.zero_add]
theorem set_end {x y : List TV} : (H ++ [x]).set H.length y = H ++ [y] := by
  rw [List.set_append_right _ _ (Nat.le_refl _), Nat.sub_self]; rfl
theorem pack_room (l : List Int) (n : Int) (hl : l.length ≤ 10000000) (hn : 0 ≤ n ∧ n ≤ 10000000) : CT n_pack_room [.sl .shr (bl l), .int .i64 n] H = some ⟨.sl (.own 1 false) (bl l), H, false⟩ := by
  obtain ⟨m, rfl⟩ := Int.eq_ofNat_of_zero_le hn.1
  have hw : IntKind.i64.wrap ((l.length : Int) + m) = ((l.length + m : Nat) : Int) := by rw [IntWalk.i64_in _ (by omega)]; omega
  have q0 : (0 : Int) ≤ l.length := by omega
  have q1 : (l.length : Int) ≤ (l.length + m : Nat) := by omega
  have q2 : l.length + m ≤ roomB := by unfold roomB; omega
  have q3 : ((l.length + m : Nat) : Int) ≤ 9223372036854775807 := by omega
  have hz : flat (List.replicate (l.length + m) (TV.int .u8 0)) = bl (List.replicate (l.length + m) 0) := by rw [bl_rep, bl_flat]
  have hb : live (H ++ [bl (List.replicate (l.length + m) 0)]) H.length = some (bl (List.replicate (l.length + m) 0)) := live_app_eq (bl_dead _)
  have okw := bl_okW l
  have e1 : (bl l).take l.length = bl l := by rw [← bl_len l, List.take_length]
  have q4 : l.length ≤ (bl (List.replicate (l.length + m) 0)).length := by rw [bl_len, List.length_replicate]; omega
  have hsp : splice (bl (List.replicate (l.length + m) 0)) 0 (bl l) = bl (l ++ List.replicate m 0) := by
    unfold splice
    rw [List.take_zero, List.nil_append, Nat.zero_add, bl_len, bl_drop, bl_app]
    congr 2
    rw [List.drop_replicate]; congr 1; omega
  have ht := bl_trim (H := H) l (List.replicate m 0)
  generalize bl (List.replicate (l.length + m) 0) = Z at *
  refine callT_of rfl tab_pack_room ?_
  simp (maxSteps := 4000000) only [↓set16, ↓sl16, zaa, zab, zac, zad, zz0, zz1, zz2, zz3, zz4, zae, zaf, zag, zah, zai, zaj, zak, zal, zam, zan, zao, zap, zaq, zar, zas, zat, zau, zav, zaw, zax, zay, zaz, zba, zbb, zbc, zbd, zbe, zbf, zbg, zbh, zbi, zbj, zbk, zbl, zbm, zbn, zbo, zbp, zbq, zbr, zbs, zbt, zbu, zbv, zbw, zbx, zby, zbz, zca, zcb, zcc, zcd, zce, zcf, zcg, zch, zci, zcj, zck, zcl, zcm, zcn, ne_eq, zco, zcp, zcq, zcr, zcs, List.replicate, zct, zcu, zcv, zcw, zcx, zcy, zcz, zda, zdb, zdc, zdd, zde, zdf, zdg, zdh, zdi, killT, delta, tak, ev, ad, taks, evs, nL, getH, pack, arith, callD, Nat.reduceAdd, Nat.reduceSub, Nat.reduceMul, Nat.reduceLeDiff, Nat.reduceEqDiff, Nat.reduceBEq, Nat.reduceBNe, Nat.reduceLT, Nat.reduceDiv, Int.reduceNeg, Int.reduceLT, Int.reduceLE, Int.reduceEq, Int.reduceNe, Int.reduceAdd, Int.reduceSub, Int.reduceMul, Int.reduceToNat, Int.reduceBEq, Int.reduceBNe, fillP, fillE, okE, okW, bound, elS, srcS, Fin, finish, ress, resOf, one, keeps, ↓reduceIte, Dl.ap, Dl.slots, okD, isLp, zeros, reduceCtorEq, zdj, zdk, tf_pack_room, bl_len, hw, q0, q1, q2, q3, hz, hb, okw, e1, q4, bl_flat, hsp, bl_lts, Int.toNat_natCast, Int.le_refl, set_end, ht]
theorem fdiv_pow (n : Int) (j : Nat) : n.fdiv (2 ^ (7 * j)) = n / 128 ^ j := by
  rw [Int.fdiv_eq_ediv_of_nonneg _ (Int.pow_nonneg (by decide)), Int.pow_mul]; rfl
theorem pow128_pos (f : Nat) : (0 : Int) < 128 ^ f := Int.pow_pos (by decide)
/-- Size, on: n of at most so many groups more. -/
theorem size_loop (f : Nat) : ∀ (n s : Int), 0 ≤ n → n < 128 ^ (f + 1) → n ≤ 9223372036854775807 → 0 ≤ s → s + f ≤ 1000 →
    Run ⟨CT, true, [TRes.tmp 2], ⟨.int .i64 (s + (grp f n).length - 1), H, false⟩⟩ [Fr.blk 0, Fr.seq ((TC.reg [{ d := some 10, op := .mv false (.s 3), g := none }, { d := some 2, op := .mv false (.s 10), g := none }] []).seq TC.ret)] (.loop lp_pack_Size_1) ⟨(.int .i64 n :: TV.tup [] :: TV.junk :: .int .i64 s :: TV.junk :: TV.junk :: TV.junk :: TV.junk :: TV.junk :: TV.junk :: TV.tup [] :: []), H, H.length, false⟩ := by
  induction f with
  | zero =>
    intro n s h0 h1 hm h2 h3
    have hq : ¬ (128 : Int) ≤ n := by omega
    have e : s + ((grp 0 n).length : Int) - 1 = s := by show s + ((1 : Nat) : Int) - 1 = s; omega
    rw [e, Run_loop]
    simp (maxSteps := 4000000) only [↓set16, ↓sl16, zaa, zab, zac, zad, zz0, zz1, zz2, zz3, zz4, zae, zaf, zag, zah, zai, zaj, zak, zal, zam, zan, zao, zap, zaq, zar, zas, zat, zau, zav, zaw, zax, zay, zaz, zba, zbb, zbc, zbd, zbe, zbf, zbg, zbh, zbi, zbj, zbk, zbl, zbm, zbn, zbo, zbp, zbq, zbr, zbs, zbt, zbu, zbv, zbw, zbx, zby, zbz, zca, zcb, zcc, zcd, zce, zcf, zcg, zch, zci, zcj, zck, zcl, zcm, zcn, ne_eq, zco, zcp, zcq, zcr, zcs, List.replicate, zct, zcu, zcv, zcw, zcx, zcy, zcz, zda, zdb, zdc, zdd, zde, zdf, zdg, zdh, zdi, killT, delta, tak, ev, ad, taks, evs, nL, getH, pack, arith, callD, Nat.reduceAdd, Nat.reduceSub, Nat.reduceMul, Nat.reduceLeDiff, Nat.reduceEqDiff, Nat.reduceBEq, Nat.reduceBNe, Nat.reduceLT, Nat.reduceDiv, Int.reduceNeg, Int.reduceLT, Int.reduceLE, Int.reduceEq, Int.reduceNe, Int.reduceAdd, Int.reduceSub, Int.reduceMul, Int.reduceToNat, Int.reduceBEq, Int.reduceBNe, fillP, fillE, okE, okW, bound, elS, srcS, Fin, finish, ress, resOf, one, keeps, ↓reduceIte, Dl.ap, Dl.slots, okD, isLp, zeros, reduceCtorEq, zdj, zdk, lp_pack_Size_1, ge_iff_le, hq]
  | succ f ih =>
    intro n s h0 h1 hm h2 h3
    by_cases hx : n < 128
    · have hq : ¬ (128 : Int) ≤ n := by omega
      have hg : grp (f + 1) n = [n] := by unfold grp; rw [if_pos hx]
      have e : s + ((grp (f + 1) n).length : Int) - 1 = s := by rw [hg]; show s + ((1 : Nat) : Int) - 1 = s; omega
      rw [e, Run_loop]
      simp (maxSteps := 4000000) only [↓set16, ↓sl16, zaa, zab, zac, zad, zz0, zz1, zz2, zz3, zz4, zae, zaf, zag, zah, zai, zaj, zak, zal, zam, zan, zao, zap, zaq, zar, zas, zat, zau, zav, zaw, zax, zay, zaz, zba, zbb, zbc, zbd, zbe, zbf, zbg, zbh, zbi, zbj, zbk, zbl, zbm, zbn, zbo, zbp, zbq, zbr, zbs, zbt, zbu, zbv, zbw, zbx, zby, zbz, zca, zcb, zcc, zcd, zce, zcf, zcg, zch, zci, zcj, zck, zcl, zcm, zcn, ne_eq, zco, zcp, zcq, zcr, zcs, List.replicate, zct, zcu, zcv, zcw, zcx, zcy, zcz, zda, zdb, zdc, zdd, zde, zdf, zdg, zdh, zdi, killT, delta, tak, ev, ad, taks, evs, nL, getH, pack, arith, callD, Nat.reduceAdd, Nat.reduceSub, Nat.reduceMul, Nat.reduceLeDiff, Nat.reduceEqDiff, Nat.reduceBEq, Nat.reduceBNe, Nat.reduceLT, Nat.reduceDiv, Int.reduceNeg, Int.reduceLT, Int.reduceLE, Int.reduceEq, Int.reduceNe, Int.reduceAdd, Int.reduceSub, Int.reduceMul, Int.reduceToNat, Int.reduceBEq, Int.reduceBNe, fillP, fillE, okE, okW, bound, elS, srcS, Fin, finish, ress, resOf, one, keeps, ↓reduceIte, Dl.ap, Dl.slots, okD, isLp, zeros, reduceCtorEq, zdj, zdk, lp_pack_Size_1, ge_iff_le, hq]
    · have hq : (128 : Int) ≤ n := by omega
      have hp : n / 128 < 128 ^ (f + 1) := by
        apply Int.ediv_lt_of_lt_mul (by omega)
        rw [← Int.pow_succ]; exact h1
      have hg : grp (f + 1) n = grp f (n / 128) ++ [n % 128] := by show (if n < 128 then [n] else _) = _; rw [if_neg hx]
      have e : s + ((grp (f + 1) n).length : Int) - 1 = (s + 1) + ((grp f (n / 128)).length : Int) - 1 := by rw [hg]; simp; omega
      have hgo := ih (n / 128) (s + 1) (by omega) hp (by omega) (by omega) (by omega)
      have hw : IntKind.i64.wrap (s + 1) = s + 1 := IntWalk.i64_in _ (by omega)
      have hm7 : min 7 IntKind.i64.bits = 7 := rfl
      have hfd : n.fdiv (2 ^ 7) = n / 128 := fdiv_pow n 1
      rw [e, Run_loop]
      simp (maxSteps := 4000000) only [↓set16, ↓sl16, zaa, zab, zac, zad, zz0, zz1, zz2, zz3, zz4, zae, zaf, zag, zah, zai, zaj, zak, zal, zam, zan, zao, zap, zaq, zar, zas, zat, zau, zav, zaw, zax, zay, zaz, zba, zbb, zbc, zbd, zbe, zbf, zbg, zbh, zbi, zbj, zbk, zbl, zbm, zbn, zbo, zbp, zbq, zbr, zbs, zbt, zbu, zbv, zbw, zbx, zby, zbz, zca, zcb, zcc, zcd, zce, zcf, zcg, zch, zci, zcj, zck, zcl, zcm, zcn, ne_eq, zco, zcp, zcq, zcr, zcs, List.replicate, zct, zcu, zcv, zcw, zcx, zcy, zcz, zda, zdb, zdc, zdd, zde, zdf, zdg, zdh, zdi, killT, delta, tak, ev, ad, taks, evs, nL, getH, pack, arith, callD, Nat.reduceAdd, Nat.reduceSub, Nat.reduceMul, Nat.reduceLeDiff, Nat.reduceEqDiff, Nat.reduceBEq, Nat.reduceBNe, Nat.reduceLT, Nat.reduceDiv, Int.reduceNeg, Int.reduceLT, Int.reduceLE, Int.reduceEq, Int.reduceNe, Int.reduceAdd, Int.reduceSub, Int.reduceMul, Int.reduceToNat, Int.reduceBEq, Int.reduceBNe, fillP, fillE, okE, okW, bound, elS, srcS, Fin, finish, ress, resOf, one, keeps, ↓reduceIte, Dl.ap, Dl.slots, okD, isLp, zeros, reduceCtorEq, zdj, zdk, lp_pack_Size_1, ge_iff_le, hq, hm7, hfd, hw, show ¬ (7 : Int) < 0 by decide]
      exact hgo
theorem pack_Size (n : Int) (h0 : 0 ≤ n) (h1 : n ≤ 9223372036854775807) : CT n_pack_Size [.int .i64 n] H = some ⟨.int .i64 (numB n).length, H, false⟩ := by
  refine callT_of rfl tab_pack_Size ?_
  simp (maxSteps := 4000000) only [↓set16, ↓sl16, zaa, zab, zac, zad, zz0, zz1, zz2, zz3, zz4, zae, zaf, zag, zah, zai, zaj, zak, zal, zam, zan, zao, zap, zaq, zar, zas, zat, zau, zav, zaw, zax, zay, zaz, zba, zbb, zbc, zbd, zbe, zbf, zbg, zbh, zbi, zbj, zbk, zbl, zbm, zbn, zbo, zbp, zbq, zbr, zbs, zbt, zbu, zbv, zbw, zbx, zby, zbz, zca, zcb, zcc, zcd, zce, zcf, zcg, zch, zci, zcj, zck, zcl, zcm, zcn, ne_eq, zco, zcp, zcq, zcr, zcs, List.replicate, zct, zcu, zcv, zcw, zcx, zcy, zcz, zda, zdb, zdc, zdd, zde, zdf, zdg, zdh, zdi, killT, delta, tak, ev, ad, taks, evs, nL, getH, pack, arith, callD, Nat.reduceAdd, Nat.reduceSub, Nat.reduceMul, Nat.reduceLeDiff, Nat.reduceEqDiff, Nat.reduceBEq, Nat.reduceBNe, Nat.reduceLT, Nat.reduceDiv, Int.reduceNeg, Int.reduceLT, Int.reduceLE, Int.reduceEq, Int.reduceNe, Int.reduceAdd, Int.reduceSub, Int.reduceMul, Int.reduceToNat, Int.reduceBEq, Int.reduceBNe, fillP, fillE, okE, okW, bound, elS, srcS, Fin, finish, ress, resOf, one, keeps, ↓reduceIte, Dl.ap, Dl.slots, okD, isLp, zeros, reduceCtorEq, zdj, zdk, tf_pack_Size]
  have hgo := size_loop (H := H) 8 n 1 h0 (by omega) h1 (by omega) (by omega)
  have e : (1 : Int) + ((grp 8 n).length : Int) - 1 = (numB n).length := by
    have : max n 0 = n := by omega
    unfold numB; rw [hi_len, this]; omega
  rw [e] at hgo
  exact hgo
theorem or8 (y : Int) : IntKind.u8.wrap (BitVec.ofInt IntKind.u8.bits (IntKind.u8.wrap y) ||| BitVec.ofInt IntKind.u8.bits 128).toNat = y % 128 + 128 := by
  rw [IntKind.wrap_u8 y]
  obtain ⟨n, hn⟩ := Int.eq_ofNat_of_zero_le (show 0 ≤ y % 256 by omega)
  have key : ∀ m : _root_.Fin 256, IntKind.u8.wrap (BitVec.ofInt IntKind.u8.bits ((m.val : Nat) : Int) ||| BitVec.ofInt IntKind.u8.bits 128).toNat = ((m.val : Nat) : Int) % 128 + 128 := by decide +kernel
  have := key ⟨n, by omega⟩
  rw [hn]
  simp only at this
  rw [this]; omega
theorem andNot8w (y : Int) : IntKind.u8.wrap (BitVec.ofInt IntKind.u8.bits (IntKind.u8.wrap y) &&& ~~~BitVec.ofInt IntKind.u8.bits 128).toNat = y % 128 := by
  rw [IntKind.wrap_u8 y]
  obtain ⟨n, hn⟩ := Int.eq_ofNat_of_zero_le (show 0 ≤ y % 256 by omega)
  have key : ∀ m : _root_.Fin 256, IntKind.u8.wrap (BitVec.ofInt IntKind.u8.bits ((m.val : Nat) : Int) &&& ~~~BitVec.ofInt IntKind.u8.bits 128).toNat = ((m.val : Nat) : Int) % 128 := by decide +kernel
  have := key ⟨n, by omega⟩
  rw [hn]
  simp only at this
  rw [this]; omega
theorem put_loop (n : Int) (h0 : 0 ≤ n) (r : List Int) (j : Nat) : ∀ (x : List Int), j ≤ 8 → x.length + j ≤ 20000000 → x ++ (mids j n ++ [n % 128]) = r →
    Run ⟨CT, true, [TRes.tmp 4], ⟨.sl (.own 1 false) (bl r), H, false⟩⟩ [Fr.blk 0, Fr.seq ((TC.reg [{ d := some 24, op := .mv true (.s 0), g := none }, { d := some 25, op := .mv false (.s 1), g := none }, { d := some 26, op := .cvi IntKind.u8 (.s 25), g := none }, { d := some 27, op := .ar BinOp.andNot (.s 26) (.c (.int IntKind.u8 128)), g := none }, { d := some 28, op := .bsl false 1 1 [.int IntKind.u8 0] [(0, .s 27)], g := none }, { d := some 29, op := .app true 1 1 (.s 24) (.s 28), g := none }, { d := some 4, op := .mv true (.s 29), g := none }] []).seq TC.ret)] (.loop lp_pack_put_1)
      ⟨(.sl (.own 1 false) (bl x) :: .int .i64 n :: TV.tup [] :: TV.tup [] :: TV.junk :: .int .i64 (7 * (j : Int)) :: TV.junk :: TV.junk :: TV.junk :: TV.junk :: TV.junk :: TV.junk :: TV.junk :: TV.junk :: TV.junk :: TV.junk :: TV.junk :: TV.junk :: TV.junk :: TV.junk :: TV.junk :: TV.junk :: TV.junk :: TV.junk :: TV.tup [] :: TV.tup [] :: TV.tup [] :: TV.tup [] :: TV.tup [] :: TV.tup [] :: []), H, H.length, false⟩ := by
  induction j with
  | zero =>
    intro x hj hl he
    have e : bl r = bl x ++ [.int .u8 (n % 128)] := by rw [← he, bl_app]; rfl
    have okw := bl_okW x
    have r1 : x.length + 1 ≤ roomB := by unfold roomB; omega
    have hq : ¬ (0 : Int) < 7 * ((0 : Nat) : Int) := by omega
    rw [e, Run_loop]
    simp (maxSteps := 4000000) only [↓set16, ↓sl16, zaa, zab, zac, zad, zz0, zz1, zz2, zz3, zz4, zae, zaf, zag, zah, zai, zaj, zak, zal, zam, zan, zao, zap, zaq, zar, zas, zat, zau, zav, zaw, zax, zay, zaz, zba, zbb, zbc, zbd, zbe, zbf, zbg, zbh, zbi, zbj, zbk, zbl, zbm, zbn, zbo, zbp, zbq, zbr, zbs, zbt, zbu, zbv, zbw, zbx, zby, zbz, zca, zcb, zcc, zcd, zce, zcf, zcg, zch, zci, zcj, zck, zcl, zcm, zcn, ne_eq, zco, zcp, zcq, zcr, zcs, List.replicate, zct, zcu, zcv, zcw, zcx, zcy, zcz, zda, zdb, zdc, zdd, zde, zdf, zdg, zdh, zdi, killT, delta, tak, ev, ad, taks, evs, nL, getH, pack, arith, callD, Nat.reduceAdd, Nat.reduceSub, Nat.reduceMul, Nat.reduceLeDiff, Nat.reduceEqDiff, Nat.reduceBEq, Nat.reduceBNe, Nat.reduceLT, Nat.reduceDiv, Int.reduceNeg, Int.reduceLT, Int.reduceLE, Int.reduceEq, Int.reduceNe, Int.reduceAdd, Int.reduceSub, Int.reduceMul, Int.reduceToNat, Int.reduceBEq, Int.reduceBNe, fillP, fillE, okE, okW, bound, elS, srcS, Fin, finish, ress, resOf, one, keeps, ↓reduceIte, Dl.ap, Dl.slots, okD, isLp, zeros, reduceCtorEq, zdj, zdk, lp_pack_put_1, gt_iff_lt, hq, andNot8w, okw, bl_len, r1]
  | succ j ih =>
    intro x hj hl he
    have hgo := ih (x ++ [(n / 128 ^ (j + 1)) % 128 + 128]) (by omega) (by simp; omega) (by rw [← he]; simp [mids])
    rw [bl_app, show bl [(n / 128 ^ (j + 1)) % 128 + 128] = [TV.int .u8 ((n / 128 ^ (j + 1)) % 128 + 128)] from rfl] at hgo
    have okw := bl_okW x
    have r1 : x.length + 1 ≤ roomB := by unfold roomB; omega
    have hq : (0 : Int) < 7 * ((j + 1 : Nat) : Int) := by omega
    have hq2 : ¬ 7 * ((j + 1 : Nat) : Int) < 0 := by omega
    have ht : (7 * ((j + 1 : Nat) : Int)).toNat = 7 * (j + 1) := by omega
    have hm : min (7 * (j + 1)) IntKind.i64.bits = 7 * (j + 1) := by simp [IntKind.bits]; omega
    have hw : IntKind.i64.wrap (7 * ((j + 1 : Nat) : Int) - 7) = 7 * (j : Int) := by rw [IntWalk.i64_in _ (by omega)]; omega
    rw [Run_loop]
    simp (maxSteps := 4000000) only [↓set16, ↓sl16, zaa, zab, zac, zad, zz0, zz1, zz2, zz3, zz4, zae, zaf, zag, zah, zai, zaj, zak, zal, zam, zan, zao, zap, zaq, zar, zas, zat, zau, zav, zaw, zax, zay, zaz, zba, zbb, zbc, zbd, zbe, zbf, zbg, zbh, zbi, zbj, zbk, zbl, zbm, zbn, zbo, zbp, zbq, zbr, zbs, zbt, zbu, zbv, zbw, zbx, zby, zbz, zca, zcb, zcc, zcd, zce, zcf, zcg, zch, zci, zcj, zck, zcl, zcm, zcn, ne_eq, zco, zcp, zcq, zcr, zcs, List.replicate, zct, zcu, zcv, zcw, zcx, zcy, zcz, zda, zdb, zdc, zdd, zde, zdf, zdg, zdh, zdi, killT, delta, tak, ev, ad, taks, evs, nL, getH, pack, arith, callD, Nat.reduceAdd, Nat.reduceSub, Nat.reduceMul, Nat.reduceLeDiff, Nat.reduceEqDiff, Nat.reduceBEq, Nat.reduceBNe, Nat.reduceLT, Nat.reduceDiv, Int.reduceNeg, Int.reduceLT, Int.reduceLE, Int.reduceEq, Int.reduceNe, Int.reduceAdd, Int.reduceSub, Int.reduceMul, Int.reduceToNat, Int.reduceBEq, Int.reduceBNe, fillP, fillE, okE, okW, bound, elS, srcS, Fin, finish, ress, resOf, one, keeps, ↓reduceIte, Dl.ap, Dl.slots, okD, isLp, zeros, reduceCtorEq, zdj, zdk, lp_pack_put_1, gt_iff_lt, hq, hq2, ht, hm, fdiv_pow, or8, okw, bl_len, r1, hw]
    exact hgo
theorem pack_put (l : List Int) (n : Int) (hn : I64 n) (hl : l.length ≤ 10000000) : CT n_pack_put [.sl (.own 1 false) (bl l), .int .i64 n] H = some ⟨.sl (.own 1 false) (bl (l ++ numB n)), H, false⟩ := by
  have hS := pack_Size (H := H) (max n 0) (by omega) (by unfold I64 at hn; omega)
  have hmx : (if (0 : Int) > n then (0 : Int) else n) = max n 0 := by split <;> omega
  refine callT_of rfl tab_pack_put ?_
  simp (maxSteps := 4000000) only [↓set16, ↓sl16, zaa, zab, zac, zad, zz0, zz1, zz2, zz3, zz4, zae, zaf, zag, zah, zai, zaj, zak, zal, zam, zan, zao, zap, zaq, zar, zas, zat, zau, zav, zaw, zax, zay, zaz, zba, zbb, zbc, zbd, zbe, zbf, zbg, zbh, zbi, zbj, zbk, zbl, zbm, zbn, zbo, zbp, zbq, zbr, zbs, zbt, zbu, zbv, zbw, zbx, zby, zbz, zca, zcb, zcc, zcd, zce, zcf, zcg, zch, zci, zcj, zck, zcl, zcm, zcn, ne_eq, zco, zcp, zcq, zcr, zcs, List.replicate, zct, zcu, zcv, zcw, zcx, zcy, zcz, zda, zdb, zdc, zdd, zde, zdf, zdg, zdh, zdi, killT, delta, tak, ev, ad, taks, evs, nL, getH, pack, arith, callD, Nat.reduceAdd, Nat.reduceSub, Nat.reduceMul, Nat.reduceLeDiff, Nat.reduceEqDiff, Nat.reduceBEq, Nat.reduceBNe, Nat.reduceLT, Nat.reduceDiv, Int.reduceNeg, Int.reduceLT, Int.reduceLE, Int.reduceEq, Int.reduceNe, Int.reduceAdd, Int.reduceSub, Int.reduceMul, Int.reduceToNat, Int.reduceBEq, Int.reduceBNe, fillP, fillE, okE, okW, bound, elS, srcS, Fin, finish, ress, resOf, one, keeps, ↓reduceIte, Dl.ap, Dl.slots, okD, isLp, zeros, reduceCtorEq, zdj, zdk, tf_pack_put, hmx, hS]
  unfold I64 at hn
  have e : numB (max n 0) = numB n := by unfold numB; congr 2; omega
  have hb := numB_len n
  have hw : IntKind.i64.wrap (7 * IntKind.i64.wrap (((numB (max n 0)).length : Int) - 1)) = 7 * (((numB n).length - 1 : Nat) : Int) := by
    rw [e, IntWalk.i64_in (_ - 1) (by omega), IntWalk.i64_in _ (by omega)]; omega
  have hmids := numB_mids (max n 0) (by omega) (by omega)
  rw [e] at hmids
  rw [hw]
  exact put_loop (H := H) (max n 0) (by omega) _ _ l (by omega) (by omega) (by rw [← hmids])
theorem pack_Num (l : List Int) (n : Int) (hn : I64 n) (hl : l.length ≤ 4000000) : CT n_pack_Num [.sl .shr (bl l), .int .i64 n] H = some ⟨.sl (.own 1 false) (bl (l ++ numB n)), H, false⟩ := by
  have hR := pack_room (H := H) l 9 (by omega) (by omega)
  have hP := pack_put (H := H) l n hn (by omega)
  refine callT_of rfl tab_pack_Num ?_
  simp (maxSteps := 4000000) only [↓set16, ↓sl16, zaa, zab, zac, zad, zz0, zz1, zz2, zz3, zz4, zae, zaf, zag, zah, zai, zaj, zak, zal, zam, zan, zao, zap, zaq, zar, zas, zat, zau, zav, zaw, zax, zay, zaz, zba, zbb, zbc, zbd, zbe, zbf, zbg, zbh, zbi, zbj, zbk, zbl, zbm, zbn, zbo, zbp, zbq, zbr, zbs, zbt, zbu, zbv, zbw, zbx, zby, zbz, zca, zcb, zcc, zcd, zce, zcf, zcg, zch, zci, zcj, zck, zcl, zcm, zcn, ne_eq, zco, zcp, zcq, zcr, zcs, List.replicate, zct, zcu, zcv, zcw, zcx, zcy, zcz, zda, zdb, zdc, zdd, zde, zdf, zdg, zdh, zdi, killT, delta, tak, ev, ad, taks, evs, nL, getH, pack, arith, callD, Nat.reduceAdd, Nat.reduceSub, Nat.reduceMul, Nat.reduceLeDiff, Nat.reduceEqDiff, Nat.reduceBEq, Nat.reduceBNe, Nat.reduceLT, Nat.reduceDiv, Int.reduceNeg, Int.reduceLT, Int.reduceLE, Int.reduceEq, Int.reduceNe, Int.reduceAdd, Int.reduceSub, Int.reduceMul, Int.reduceToNat, Int.reduceBEq, Int.reduceBNe, fillP, fillE, okE, okW, bound, elS, srcS, Fin, finish, ress, resOf, one, keeps, ↓reduceIte, Dl.ap, Dl.slots, okD, isLp, zeros, reduceCtorEq, zdj, zdk, tf_pack_Num, hR, hP]
/-- A text's bytes. -/
def strB (s : ByteArray) : List Int := s.data.toList.map fun b => (b.toNat : Int)
theorem strB_len (s : ByteArray) : (strB s).length = s.size := by simp [strB]
theorem ofBytes_bl (s : ByteArray) : ofBytes s = bl (strB s) := by simp [ofBytes, bl, strB, Function.comp_def]
theorem pack_Text (l : List Int) (s : ByteArray) (hl : l.length ≤ 4000000) (hs : s.size ≤ 4000000) : CT n_pack_Text [.sl .shr (bl l), .str s] H = some ⟨.sl (.own 1 false) (bl (l ++ numB s.size ++ strB s)), H, false⟩ := by
  have hw : IntKind.i64.wrap (9 + (s.size : Int)) = 9 + (s.size : Int) := IntWalk.i64_in _ (by omega)
  have hR := pack_room (H := H) l (9 + (s.size : Int)) (by omega) (by omega)
  have hP := pack_put (H := H) l s.size (by unfold I64; omega) (by omega)
  have hb := numB_len s.size
  have okw := bl_okW (l ++ numB s.size)
  have okw2 := bl_okW (strB s)
  have r1 : (l ++ numB s.size).length + (strB s).length ≤ roomB := by rw [List.length_append, strB_len]; unfold roomB; omega
  rw [bl_app (l ++ numB s.size)]
  generalize l ++ numB s.size = L at *
  refine callT_of rfl tab_pack_Text ?_
  simp (maxSteps := 4000000) only [↓set16, ↓sl16, zaa, zab, zac, zad, zz0, zz1, zz2, zz3, zz4, zae, zaf, zag, zah, zai, zaj, zak, zal, zam, zan, zao, zap, zaq, zar, zas, zat, zau, zav, zaw, zax, zay, zaz, zba, zbb, zbc, zbd, zbe, zbf, zbg, zbh, zbi, zbj, zbk, zbl, zbm, zbn, zbo, zbp, zbq, zbr, zbs, zbt, zbu, zbv, zbw, zbx, zby, zbz, zca, zcb, zcc, zcd, zce, zcf, zcg, zch, zci, zcj, zck, zcl, zcm, zcn, ne_eq, zco, zcp, zcq, zcr, zcs, List.replicate, zct, zcu, zcv, zcw, zcx, zcy, zcz, zda, zdb, zdc, zdd, zde, zdf, zdg, zdh, zdi, killT, delta, tak, ev, ad, taks, evs, nL, getH, pack, arith, callD, Nat.reduceAdd, Nat.reduceSub, Nat.reduceMul, Nat.reduceLeDiff, Nat.reduceEqDiff, Nat.reduceBEq, Nat.reduceBNe, Nat.reduceLT, Nat.reduceDiv, Int.reduceNeg, Int.reduceLT, Int.reduceLE, Int.reduceEq, Int.reduceNe, Int.reduceAdd, Int.reduceSub, Int.reduceMul, Int.reduceToNat, Int.reduceBEq, Int.reduceBNe, fillP, fillE, okE, okW, bound, elS, srcS, Fin, finish, ress, resOf, one, keeps, ↓reduceIte, Dl.ap, Dl.slots, okD, isLp, zeros, reduceCtorEq, zdj, zdk, tf_pack_Text, hR, hP, hw, ofBytes_bl, okw, okw2, bl_len, r1]
end Go.T
