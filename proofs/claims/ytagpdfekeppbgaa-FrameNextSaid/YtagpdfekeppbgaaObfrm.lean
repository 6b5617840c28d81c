/- Frames: what both say. -/
import Derived.Test.YtagpdfekeppbgaaObadl
set_option linter.unusedVariables false
set_option linter.unusedSimpArgs false
set_option maxRecDepth 10000
set_option pp.deepTerms true
set_option pp.maxSteps 1000000
set_option maxHeartbeats 1000000
namespace Go.T
attribute [local irreducible] Run Back RS Ap
variable {H H0 : Heap} {i : Nat} {s : RSt}
theorem bytes_Clone (l : List Int) (hm : l.length ≤ 4000000) : ∃ r, CT n_slices_Clone_byte_byte [.sl .shr (bl l)] H = some r ∧ trim true H.length r = ⟨if l.length = 0 then .nils else .sl (.own 1 false) (bl l), H, false⟩ := by
  have h1 : l.length ≤ roomB := by unfold roomB; omega
  by_cases h0 : l.length = 0
  · refine ⟨_, callT_ext (c := cloneC false 1 1) rfl (r := ⟨.nils, H, false⟩) ?_, ?_⟩
    · simp only [cloneC, elS, bl_okW', bl_len, Nat.mul_one, h1, z_ao_sl, true_and, and_true, if_true, and_self, h0, Nat.zero_le]
    · rw [if_pos h0]; exact trim_refl
  · refine ⟨_, callT_ext (c := cloneC false 1 1) rfl (r := ⟨.asl false 1 H.length 0 l.length, H ++ [bl l], false⟩) ?_, ?_⟩
    · simp only [cloneC, elS, bl_okW', bl_len, Nat.mul_one, h1, z_ao_sl, bl_flat, true_and, and_true, if_true, and_self, h0, if_false]
    · have := bl_trim (H := H) l []
      rw [List.append_nil] at this
      rw [this, if_neg h0]
theorem strB_strOf (l : List Int) (h : ∀ x ∈ l, 0 ≤ x ∧ x ≤ 255) : strB (strOf l) = l := by
  unfold strB strOf bl
  simp only [List.map_map]
  conv => rhs; rw [← List.map_id l]
  apply List.map_congr_left
  intro x hx
  have := h x hx
  simp [byteOf]
  omega
theorem strOf_size (l : List Int) : (strOf l).size = l.length := by
  show (((bl l).map byteOf).toArray).size = _
  simp [bl_len]
theorem strOf_inj {a b : List Int} (ha : ∀ x ∈ a, 0 ≤ x ∧ x ≤ 255) (hb : ∀ x ∈ b, 0 ≤ x ∧ x ≤ 255) : (strOf a = strOf b) = (a = b) := by
  apply propext
  constructor
  · intro h
    rw [← strB_strOf a ha, ← strB_strOf b hb, h]
  · rintro rfl; rfl
theorem eq_zipB (a b : List Int) (hl : a.length = b.length) : decide (a = b) = (a.zip b).all fun p => decide (p.1 = p.2) := by
  rw [Bool.eq_iff_iff]
  simp only [decide_eq_true_eq, List.all_eq_true]
  constructor
  · rintro rfl p hp
    obtain ⟨i, hi⟩ := List.getElem?_of_mem hp
    rw [List.getElem?_zip_eq_some] at hi
    exact Option.some.inj (hi.1.symm.trans hi.2)
  · intro h
    apply List.ext_getElem hl
    intro i h1 h2
    have := h (a[i], b[i]) (by
      apply List.mem_of_getElem? (i := i)
      rw [List.getElem?_zip_eq_some]
      exact ⟨List.getElem?_eq_getElem h1, List.getElem?_eq_getElem h2⟩)
    exact this
theorem bytes_Equal (a b : List Int) (ha : a.length ≤ 9223372036854775807) : CT n_slices_Equal_byte_byte [.sl .shr (bl a), .sl .shr (bl b)] H = some ⟨.bool (decide (a = b)), H, false⟩ := by
  by_cases hl : a.length = b.length
  rotate_left
  · have hq : ((a.length : Int) != b.length) = true := by rw [bne_iff_ne]; omega
    have hab : ¬ a = b := by rintro rfl; exact hl rfl
    refine callT_of rfl tab_slices_Equal_byte_byte ?_
    simp (maxSteps := 4000000) only [↓set16, ↓sl16, zaa, zab, zac, zad, zz0, zz1, zz2, zz3, zz4, zae, zaf, zag, zah, zai, zaj, zak, zal, zam, zan, zao, zap, zaq, zar, zas, zat, zau, zav, zaw, zax, zay, zaz, zba, zbb, zbc, zbd, zbe, zbf, zbg, zbh, zbi, zbj, zbk, zbl, zbm, zbn, zbo, zbp, zbq, zbr, zbs, zbt, zbu, zbv, zbw, zbx, zby, zbz, zca, zcb, zcc, zcd, zce, zcf, zcg, zch, zci, zcj, zck, zcl, zcm, zcn, ne_eq, zco, zcp, zcq, zcr, zcs, List.replicate, zct, zcu, zcv, zcw, zcx, zcy, zcz, zda, zdb, zdc, zdd, zde, zdf, zdg, zdh, zdi, killT, delta, tak, ev, ad, taks, evs, nL, getH, pack, arith, callD, Nat.reduceAdd, Nat.reduceSub, Nat.reduceMul, Nat.reduceLeDiff, Nat.reduceEqDiff, Nat.reduceBEq, Nat.reduceBNe, Nat.reduceLT, Nat.reduceDiv, Int.reduceNeg, Int.reduceLT, Int.reduceLE, Int.reduceEq, Int.reduceNe, Int.reduceAdd, Int.reduceSub, Int.reduceMul, Int.reduceToNat, Int.reduceBEq, Int.reduceBNe, fillP, fillE, okE, okW, bound, elS, srcS, Fin, finish, ress, resOf, one, keeps, ↓reduceIte, Dl.ap, Dl.slots, okD, isLp, zeros, reduceCtorEq, zdj, zdk, tf_slices_Equal_byte_byte, bl_len, hq, hab]
  have hq : ((a.length : Int) != b.length) = false := by simp [hl]
  have hz : (a.zip b).length = a.length := by rw [List.length_zip, ← hl, Nat.min_self]
  rw [eq_zipB _ _ hl]
  refine callT_of rfl tab_slices_Equal_byte_byte ?_
  simp (maxSteps := 4000000) only [↓set16, ↓sl16, zaa, zab, zac, zad, zz0, zz1, zz2, zz3, zz4, zae, zaf, zag, zah, zai, zaj, zak, zal, zam, zan, zao, zap, zaq, zar, zas, zat, zau, zav, zaw, zax, zay, zaz, zba, zbb, zbc, zbd, zbe, zbf, zbg, zbh, zbi, zbj, zbk, zbl, zbm, zbn, zbo, zbp, zbq, zbr, zbs, zbt, zbu, zbv, zbw, zbx, zby, zbz, zca, zcb, zcc, zcd, zce, zcf, zcg, zch, zci, zcj, zck, zcl, zcm, zcn, ne_eq, zco, zcp, zcq, zcr, zcs, List.replicate, zct, zcu, zcv, zcw, zcx, zcy, zcz, zda, zdb, zdc, zdd, zde, zdf, zdg, zdh, zdi, killT, delta, tak, ev, ad, taks, evs, nL, getH, pack, arith, callD, Nat.reduceAdd, Nat.reduceSub, Nat.reduceMul, Nat.reduceLeDiff, Nat.reduceEqDiff, Nat.reduceBEq, Nat.reduceBNe, Nat.reduceLT, Nat.reduceDiv, Int.reduceNeg, Int.reduceLT, Int.reduceLE, Int.reduceEq, Int.reduceNe, Int.reduceAdd, Int.reduceSub, Int.reduceMul, Int.reduceToNat, Int.reduceBEq, Int.reduceBNe, fillP, fillE, okE, okW, bound, elS, srcS, Fin, finish, ress, resOf, one, keeps, ↓reduceIte, Dl.ap, Dl.slots, okD, isLp, zeros, reduceCtorEq, zdj, zdk, tf_slices_Equal_byte_byte, bl_len, hq]
  rw [← hz]
  refine loopL (a.zip b) (by omega) (fun (_ : Unit) suf => ⟨.bool (suf.all fun p => decide (p.1 = p.2)), H, false⟩) (fun k _ => ⟨(.sl .shr (bl a) :: .sl .shr (bl b) :: TV.tup [] :: TV.tup [] :: TV.junk :: TV.junk :: TV.junk :: TV.junk :: TV.junk :: TV.junk :: TV.junk :: TV.junk :: .int .i64 (a.zip b).length :: .int .i64 k :: TV.junk :: TV.junk :: TV.junk :: TV.junk :: TV.junk :: TV.junk :: TV.junk :: TV.junk :: TV.junk :: TV.junk :: TV.junk :: TV.junk :: []), H, H.length, false⟩) ?_ ?_ ()
  · intro acc hq
    rw [Run_loop]
    simp (maxSteps := 4000000) only [↓set16, ↓sl16, zaa, zab, zac, zad, zz0, zz1, zz2, zz3, zz4, zae, zaf, zag, zah, zai, zaj, zak, zal, zam, zan, zao, zap, zaq, zar, zas, zat, zau, zav, zaw, zax, zay, zaz, zba, zbb, zbc, zbd, zbe, zbf, zbg, zbh, zbi, zbj, zbk, zbl, zbm, zbn, zbo, zbp, zbq, zbr, zbs, zbt, zbu, zbv, zbw, zbx, zby, zbz, zca, zcb, zcc, zcd, zce, zcf, zcg, zch, zci, zcj, zck, zcl, zcm, zcn, ne_eq, zco, zcp, zcq, zcr, zcs, List.replicate, zct, zcu, zcv, zcw, zcx, zcy, zcz, zda, zdb, zdc, zdd, zde, zdf, zdg, zdh, zdi, killT, delta, tak, ev, ad, taks, evs, nL, getH, pack, arith, callD, Nat.reduceAdd, Nat.reduceSub, Nat.reduceMul, Nat.reduceLeDiff, Nat.reduceEqDiff, Nat.reduceBEq, Nat.reduceBNe, Nat.reduceLT, Nat.reduceDiv, Int.reduceNeg, Int.reduceLT, Int.reduceLE, Int.reduceEq, Int.reduceNe, Int.reduceAdd, Int.reduceSub, Int.reduceMul, Int.reduceToNat, Int.reduceBEq, Int.reduceBNe, fillP, fillE, okE, okW, bound, elS, srcS, Fin, finish, ress, resOf, one, keeps, ↓reduceIte, Dl.ap, Dl.slots, okD, isLp, zeros, reduceCtorEq, zdj, zdk, lp_slices_Equal_byte_byte_1, hq]
  · intro k x acc rest hx hk hk0 hw ih
    rw [List.getElem?_zip_eq_some] at hx
    have hga := bl_get hx.1
    have hgb := bl_get hx.2
    rw [Run_loop]
    by_cases h1 : x.1 = x.2
    · have ha' : (x :: rest).all (fun p => decide (p.1 = p.2)) = rest.all (fun p => decide (p.1 = p.2)) := by rw [List.all_cons]; simp [h1]
      have hne : (x.1 != x.2) = false := by simp [h1]
      rw [ha']
      simp (maxSteps := 4000000) only [↓set16, ↓sl16, zaa, zab, zac, zad, zz0, zz1, zz2, zz3, zz4, zae, zaf, zag, zah, zai, zaj, zak, zal, zam, zan, zao, zap, zaq, zar, zas, zat, zau, zav, zaw, zax, zay, zaz, zba, zbb, zbc, zbd, zbe, zbf, zbg, zbh, zbi, zbj, zbk, zbl, zbm, zbn, zbo, zbp, zbq, zbr, zbs, zbt, zbu, zbv, zbw, zbx, zby, zbz, zca, zcb, zcc, zcd, zce, zcf, zcg, zch, zci, zcj, zck, zcl, zcm, zcn, ne_eq, zco, zcp, zcq, zcr, zcs, List.replicate, zct, zcu, zcv, zcw, zcx, zcy, zcz, zda, zdb, zdc, zdd, zde, zdf, zdg, zdh, zdi, killT, delta, tak, ev, ad, taks, evs, nL, getH, pack, arith, callD, Nat.reduceAdd, Nat.reduceSub, Nat.reduceMul, Nat.reduceLeDiff, Nat.reduceEqDiff, Nat.reduceBEq, Nat.reduceBNe, Nat.reduceLT, Nat.reduceDiv, Int.reduceNeg, Int.reduceLT, Int.reduceLE, Int.reduceEq, Int.reduceNe, Int.reduceAdd, Int.reduceSub, Int.reduceMul, Int.reduceToNat, Int.reduceBEq, Int.reduceBNe, fillP, fillE, okE, okW, bound, elS, srcS, Fin, finish, ress, resOf, one, keeps, ↓reduceIte, Dl.ap, Dl.slots, okD, isLp, zeros, reduceCtorEq, zdj, zdk, lp_slices_Equal_byte_byte_1, hk, hk0, hga, hgb, Int.toNat_natCast, hne, hw]
      exact ih ()
    · have ha' : (x :: rest).all (fun p => decide (p.1 = p.2)) = false := by rw [List.all_cons]; simp [h1]
      have hne : (x.1 != x.2) = true := by simp [h1]
      rw [ha']
      simp (maxSteps := 4000000) only [↓set16, ↓sl16, zaa, zab, zac, zad, zz0, zz1, zz2, zz3, zz4, zae, zaf, zag, zah, zai, zaj, zak, zal, zam, zan, zao, zap, zaq, zar, zas, zat, zau, zav, zaw, zax, zay, zaz, zba, zbb, zbc, zbd, zbe, zbf, zbg, zbh, zbi, zbj, zbk, zbl, zbm, zbn, zbo, zbp, zbq, zbr, zbs, zbt, zbu, zbv, zbw, zbx, zby, zbz, zca, zcb, zcc, zcd, zce, zcf, zcg, zch, zci, zcj, zck, zcl, zcm, zcn, ne_eq, zco, zcp, zcq, zcr, zcs, List.replicate, zct, zcu, zcv, zcw, zcx, zcy, zcz, zda, zdb, zdc, zdd, zde, zdf, zdg, zdh, zdi, killT, delta, tak, ev, ad, taks, evs, nL, getH, pack, arith, callD, Nat.reduceAdd, Nat.reduceSub, Nat.reduceMul, Nat.reduceLeDiff, Nat.reduceEqDiff, Nat.reduceBEq, Nat.reduceBNe, Nat.reduceLT, Nat.reduceDiv, Int.reduceNeg, Int.reduceLT, Int.reduceLE, Int.reduceEq, Int.reduceNe, Int.reduceAdd, Int.reduceSub, Int.reduceMul, Int.reduceToNat, Int.reduceBEq, Int.reduceBNe, fillP, fillE, okE, okW, bound, elS, srcS, Fin, finish, ress, resOf, one, keeps, ↓reduceIte, Dl.ap, Dl.slots, okD, isLp, zeros, reduceCtorEq, zdj, zdk, lp_slices_Equal_byte_byte_1, hk, hk0, hga, hgb, Int.toNat_natCast, hne]
theorem PR.drop {z : List TV} (h : PR (H0 ++ [z]) H0.length s H) : ∃ x, H = H0 ++ [x] := by
  obtain ⟨c, rfl, _⟩ := h.ex; exact ⟨_, set_end⟩
theorem RR.drop {z : List TV} (h : RR (H0 ++ [z]) H0.length s H) : ∃ x, H = H0 ++ [x] := by
  obtain ⟨c, rfl, _⟩ := h.ex; exact ⟨_, set_end⟩
/-- A frame's bytes. -/
def frm (b : List Int) : List Int := numB b.length ++ b ++ sealB (sumA (numB b.length ++ b))
theorem ref10_Seal (b : List Int) (hb : b.length ≤ 4000) (hby : ∀ x ∈ b, 0 ≤ x ∧ x ≤ 255) (hnb : ∀ x ∈ numB b.length, 0 ≤ x ∧ x ≤ 255) : CT n_ref10_Seal [.sl .shr (bl b)] H = some ⟨.tup [.sl (.own 1 false) (bl (frm b)), .int .i64 0], H, false⟩ := by
  have hnl := numB_len b.length
  have T := ref02_Text (H := H) [] (strOf b) (by simp) (by rw [strOf_size]; omega)
  rw [strB_strOf _ hby, strOf_size, List.nil_append] at T
  have S := ref05_Sum (H := H) (numB b.length ++ b) (by rw [List.length_append]; omega) (by
    intro x hx
    rcases List.mem_append.1 hx with h | h
    · exact hnb x h
    · exact hby x h)
  have nb : bl [] = [] := rfl
  rw [nb] at T
  unfold strOf at T
  have hq : ¬ (262144 : Int) < b.length := by omega
  have hr : (numB b.length).length + b.length + 4 ≤ roomB := by unfold roomB; omega
  have e : ∀ s, bl (sealB s) = [.int .u8 (IntKind.u8.wrap (s.fdiv (2 ^ min 24 IntKind.u32.bits))), .int .u8 (IntKind.u8.wrap (s.fdiv (2 ^ min 16 IntKind.u32.bits))), .int .u8 (IntKind.u8.wrap (s.fdiv (2 ^ min 8 IntKind.u32.bits))), .int .u8 (IntKind.u8.wrap s)] := fun s => rfl
  unfold frm
  rw [bl_app, e]
  generalize hL : numB b.length ++ b = L at *
  have hr2 : L.length + 4 ≤ roomB := by rw [← hL, List.length_append]; exact hr
  refine callT_of rfl tab_ref10_Seal ?_
  simp (maxSteps := 4000000) only [↓set16, ↓sl16, zaa, zab, zac, zad, zz0, zz1, zz2, zz3, zz4, zae, zaf, zag, zah, zai, zaj, zak, zal, zam, zan, zao, zap, zaq, zar, zas, zat, zau, zav, zaw, zax, zay, zaz, zba, zbb, zbc, zbd, zbe, zbf, zbg, zbh, zbi, zbj, zbk, zbl, zbm, zbn, zbo, zbp, zbq, zbr, zbs, zbt, zbu, zbv, zbw, zbx, zby, zbz, zca, zcb, zcc, zcd, zce, zcf, zcg, zch, zci, zcj, zck, zcl, zcm, zcn, ne_eq, zco, zcp, zcq, zcr, zcs, List.replicate, zct, zcu, zcv, zcw, zcx, zcy, zcz, zda, zdb, zdc, zdd, zde, zdf, zdg, zdh, zdi, killT, delta, tak, ev, ad, taks, evs, nL, getH, pack, arith, callD, Nat.reduceAdd, Nat.reduceSub, Nat.reduceMul, Nat.reduceLeDiff, Nat.reduceEqDiff, Nat.reduceBEq, Nat.reduceBNe, Nat.reduceLT, Nat.reduceDiv, Int.reduceNeg, Int.reduceLT, Int.reduceLE, Int.reduceEq, Int.reduceNe, Int.reduceAdd, Int.reduceSub, Int.reduceMul, Int.reduceToNat, Int.reduceBEq, Int.reduceBNe, fillP, fillE, okE, okW, bound, elS, srcS, Fin, finish, ress, resOf, one, keeps, ↓reduceIte, Dl.ap, Dl.slots, okD, isLp, zeros, reduceCtorEq, zdj, zdk, tf_ref10_Seal, bl_len, gt_iff_lt, hq, T, S, bl_byte, bl_okW, hr2]
theorem rd_ok (b : List Int) (hby : ∀ x ∈ b, 0 ≤ x ∧ x ≤ 255) (m : Int) (h : (rdNum b m).2.2 = 0) : ∃ n wd : Nat, rdNum b m = ((n : Int), (wd : Int), 0) ∧ 1 ≤ wd ∧ wd ≤ 9 ∧ wd ≤ b.length ∧ numB (n : Int) = b.take wd ∧ (n : Int) ≤ m ∧ (n : Int) ≤ 9223372036854775807 := by
  unfold rdNum at h ⊢
  by_cases h0 : (numW 0 b).1 = 0
  · rw [if_pos h0] at h ⊢
    by_cases h1 : m < numV (b.take (numW 0 b).2.toNat)
    · rw [if_pos h1] at h; exact absurd h (by decide)
    · rw [if_neg h1]
      obtain ⟨r1, r2, r3, r4, r5, r6⟩ := read_back b (numW 0 b).2 hby (Prod.ext h0 rfl)
      refine ⟨(numV (b.take (numW 0 b).2.toNat)).toNat, (numW 0 b).2.toNat, ?_, by omega, by omega, by omega, ?_, by omega, by omega⟩
      · rw [Int.toNat_of_nonneg r5, Int.toNat_of_nonneg (by omega)]
      · rw [Int.toNat_of_nonneg r5]; exact r1
  · rw [if_neg h0] at h
    exact absurd h h0
theorem numW_take : ∀ (l : List Int) (i d : Nat), i ≤ 8 → 9 ≤ i + d → numW i (l.take d) = numW i l
  | [], i, d, _, _ => by simp
  | x :: xs, i, 0, hi, hd => by omega
  | x :: xs, i, d + 1, hi, hd => by
    rw [List.take_succ_cons]
    simp only [numW]
    by_cases hc : (i = 0 ∧ x = 128) ∨ (i = 8 ∧ 128 ≤ x)
    · rw [if_pos hc, if_pos hc]
    · rw [if_neg hc, if_neg hc]
      by_cases hx : x < 128
      · rw [if_pos hx, if_pos hx]
      · rw [if_neg hx, if_neg hx]
        have : i ≠ 8 := fun e => hc (.inr ⟨e, by omega⟩)
        exact numW_take xs (i + 1) d (by omega) (by omega)
theorem rdNum_take (l : List Int) (most : Int) : rdNum (l.take 16) most = rdNum l most := by
  unfold rdNum
  rw [numW_take l 0 16 (by omega) (by omega)]
  by_cases h : (numW 0 l).1 = 0
  · have := numW_le l 0 (by omega) h
    rw [if_pos h, if_pos h, List.take_take]
    have e : min (numW 0 l).2.toNat 16 = (numW 0 l).2.toNat := by omega
    rw [e]
  · rw [if_neg h, if_neg h]
theorem rN16 (b : List Int) (m : Int) : (rN m (b.take 16, 0)).1 = (rN m (b, 0)).1 ∧ (rN m (b.take 16, 0)).2.2 = (rN m (b, 0)).2.2 := by
  unfold rN
  simp only [if_true, rdNum_take]
  constructor <;> split <;> rfl
theorem parted_err (b : List Int) (hb : b.length ≤ 4000) (hby : ∀ x ∈ b, 0 ≤ x ∧ x ≤ 255) (he : (rN 262144 (b, 0)).2.2 ≠ 0) : CT n_frame_parted [.sl .shr (bl b)] H = some ⟨.tup [.agg [.int .i64 0, .int .i64 0, .int .i64 0], .int .i64 (rN 262144 (b, 0)).2.2], H, false⟩ := by
  have O := pack_Open (H := H) (b.take 16) (by rw [List.length_take]; omega)
  have P0 := PR.open_ (H := H) (b.take 16) (by rw [List.length_take]; omega) (fun x hx => hby x (List.mem_of_mem_take hx))
  obtain ⟨H1, P1, C1⟩ := P0.num 262144 (by decide)
  have hE := P1.err
  obtain ⟨x, rfl⟩ := P1.drop
  have hm : (if (16 : Int) < b.length then 16 else (b.length : Int)) = ((b.take 16).length : Int) := by rw [List.length_take]; split <;> omega
  have hp : (0 : Int) ≤ (b.take 16).length := by omega
  have hle : ((b.take 16).length : Int) ≤ b.length := by rw [List.length_take]; omega
  have hT : List.take (b.take 16).length (bl b) = bl (b.take 16) := by
    rw [bl_take]; congr 1; rw [List.length_take]
    rcases Nat.le_total 16 b.length with h | h
    · rw [Nat.min_eq_left h]
    · rw [Nat.min_eq_right h, List.take_length, List.take_of_length_le h]
  rw [(rN16 b 262144).2] at hE
  have hq : ((rN 262144 (b, 0)).2.2 != 0) = true := by simp [he]
  have ht := trim_in (fz := true) (v := .tup [.agg [.int .i64 0, .int .i64 0, .int .i64 0], .int .i64 (rN 262144 (b, 0)).2.2]) (h := H) (x := [x]) rfl rfl
  refine callT_of rfl tab_frame_parted ?_
  simp (maxSteps := 4000000) only [↓set16, ↓sl16, zaa, zab, zac, zad, zz0, zz1, zz2, zz3, zz4, zae, zaf, zag, zah, zai, zaj, zak, zal, zam, zan, zao, zap, zaq, zar, zas, zat, zau, zav, zaw, zax, zay, zaz, zba, zbb, zbc, zbd, zbe, zbf, zbg, zbh, zbi, zbj, zbk, zbl, zbm, zbn, zbo, zbp, zbq, zbr, zbs, zbt, zbu, zbv, zbw, zbx, zby, zbz, zca, zcb, zcc, zcd, zce, zcf, zcg, zch, zci, zcj, zck, zcl, zcm, zcn, ne_eq, zco, zcp, zcq, zcr, zcs, List.replicate, zct, zcu, zcv, zcw, zcx, zcy, zcz, zda, zdb, zdc, zdd, zde, zdf, zdg, zdh, zdi, killT, delta, tak, ev, ad, taks, evs, nL, getH, pack, arith, callD, Nat.reduceAdd, Nat.reduceSub, Nat.reduceMul, Nat.reduceLeDiff, Nat.reduceEqDiff, Nat.reduceBEq, Nat.reduceBNe, Nat.reduceLT, Nat.reduceDiv, Int.reduceNeg, Int.reduceLT, Int.reduceLE, Int.reduceEq, Int.reduceNe, Int.reduceAdd, Int.reduceSub, Int.reduceMul, Int.reduceToNat, Int.reduceBEq, Int.reduceBNe, fillP, fillE, okE, okW, bound, elS, srcS, Fin, finish, ress, resOf, one, keeps, ↓reduceIte, Dl.ap, Dl.slots, okD, isLp, zeros, reduceCtorEq, zdj, zdk, tf_frame_parted, bl_len, gt_iff_lt, hm, hp, hle, Int.toNat_natCast, hT, O, C1, hE, bl_okW, hq, ht]
theorem parted (b : List Int) (hb : b.length ≤ 4000) (hby : ∀ x ∈ b, 0 ≤ x ∧ x ≤ 255) (n wd : Nat) (hr : rdNum b 262144 = ((n : Int), (wd : Int), 0)) (hw : (numB n).length = wd) (hwd : wd ≤ 9) (hn : n ≤ 262144) : CT n_frame_parted [.sl .shr (bl b)] H = some ⟨if (b.length : Int) < wd + n + 4 then .tup [.agg [.int .i64 0, .int .i64 0, .int .i64 0], .int .i64 4] else .tup [.agg [.int .i64 wd, .int .i64 (wd + n), .int .i64 (wd + n + 4)], .int .i64 0], H, false⟩ := by
  have e1 : (rN 262144 (b, 0)).1 = n := by unfold rN; simp only [if_true, hr]
  have e2 : (rN 262144 (b, 0)).2.2 = 0 := by unfold rN; simp only [if_true, hr]
  have O := pack_Open (H := H) (b.take 16) (by rw [List.length_take]; omega)
  have P0 := PR.open_ (H := H) (b.take 16) (by rw [List.length_take]; omega) (fun x hx => hby x (List.mem_of_mem_take hx))
  obtain ⟨H1, P1, C1⟩ := P0.num 262144 (by decide)
  have hE := P1.err
  obtain ⟨x, rfl⟩ := P1.drop
  have hm : (if (16 : Int) < b.length then 16 else (b.length : Int)) = ((b.take 16).length : Int) := by rw [List.length_take]; split <;> omega
  have hp : (0 : Int) ≤ (b.take 16).length := by omega
  have hle : ((b.take 16).length : Int) ≤ b.length := by rw [List.length_take]; omega
  have hT : List.take (b.take 16).length (bl b) = bl (b.take 16) := by
    rw [bl_take]; congr 1; rw [List.length_take]
    rcases Nat.le_total 16 b.length with h | h
    · rw [Nat.min_eq_left h]
    · rw [Nat.min_eq_right h, List.take_length, List.take_of_length_le h]
  rw [(rN16 b 262144).2, e2] at hE
  rw [(rN16 b 262144).1, e1] at C1
  have S := pack_Size (H := H ++ [x]) n (by omega) (by omega)
  rw [hw] at S
  have w1 : IntKind.i64.wrap ((wd : Int) + n) = wd + n := IntWalk.i64_in _ (by omega)
  have w2 : IntKind.i64.wrap ((wd : Int) + n + 4) = wd + n + 4 := IntWalk.i64_in _ (by omega)
  by_cases hs : (b.length : Int) < wd + n + 4
  · rw [if_pos hs]
    have ht := trim_in (fz := true) (v := .tup [.agg [.int .i64 0, .int .i64 0, .int .i64 0], .int .i64 4]) (h := H) (x := [x]) rfl rfl
    refine callT_of rfl tab_frame_parted ?_
    simp (maxSteps := 4000000) only [↓set16, ↓sl16, zaa, zab, zac, zad, zz0, zz1, zz2, zz3, zz4, zae, zaf, zag, zah, zai, zaj, zak, zal, zam, zan, zao, zap, zaq, zar, zas, zat, zau, zav, zaw, zax, zay, zaz, zba, zbb, zbc, zbd, zbe, zbf, zbg, zbh, zbi, zbj, zbk, zbl, zbm, zbn, zbo, zbp, zbq, zbr, zbs, zbt, zbu, zbv, zbw, zbx, zby, zbz, zca, zcb, zcc, zcd, zce, zcf, zcg, zch, zci, zcj, zck, zcl, zcm, zcn, ne_eq, zco, zcp, zcq, zcr, zcs, List.replicate, zct, zcu, zcv, zcw, zcx, zcy, zcz, zda, zdb, zdc, zdd, zde, zdf, zdg, zdh, zdi, killT, delta, tak, ev, ad, taks, evs, nL, getH, pack, arith, callD, Nat.reduceAdd, Nat.reduceSub, Nat.reduceMul, Nat.reduceLeDiff, Nat.reduceEqDiff, Nat.reduceBEq, Nat.reduceBNe, Nat.reduceLT, Nat.reduceDiv, Int.reduceNeg, Int.reduceLT, Int.reduceLE, Int.reduceEq, Int.reduceNe, Int.reduceAdd, Int.reduceSub, Int.reduceMul, Int.reduceToNat, Int.reduceBEq, Int.reduceBNe, fillP, fillE, okE, okW, bound, elS, srcS, Fin, finish, ress, resOf, one, keeps, ↓reduceIte, Dl.ap, Dl.slots, okD, isLp, zeros, reduceCtorEq, zdj, zdk, tf_frame_parted, bl_len, gt_iff_lt, hm, hp, hle, Int.toNat_natCast, hT, O, C1, hE, bl_okW, bne_self_eq_false, S, w1, w2, hs, ht]
  · rw [if_neg hs]
    have ht := trim_in (fz := true) (v := .tup [.agg [.int .i64 wd, .int .i64 (wd + n), .int .i64 (wd + n + 4)], .int .i64 0]) (h := H) (x := [x]) rfl rfl
    refine callT_of rfl tab_frame_parted ?_
    simp (maxSteps := 4000000) only [↓set16, ↓sl16, zaa, zab, zac, zad, zz0, zz1, zz2, zz3, zz4, zae, zaf, zag, zah, zai, zaj, zak, zal, zam, zan, zao, zap, zaq, zar, zas, zat, zau, zav, zaw, zax, zay, zaz, zba, zbb, zbc, zbd, zbe, zbf, zbg, zbh, zbi, zbj, zbk, zbl, zbm, zbn, zbo, zbp, zbq, zbr, zbs, zbt, zbu, zbv, zbw, zbx, zby, zbz, zca, zcb, zcc, zcd, zce, zcf, zcg, zch, zci, zcj, zck, zcl, zcm, zcn, ne_eq, zco, zcp, zcq, zcr, zcs, List.replicate, zct, zcu, zcv, zcw, zcx, zcy, zcz, zda, zdb, zdc, zdd, zde, zdf, zdg, zdh, zdi, killT, delta, tak, ev, ad, taks, evs, nL, getH, pack, arith, callD, Nat.reduceAdd, Nat.reduceSub, Nat.reduceMul, Nat.reduceLeDiff, Nat.reduceEqDiff, Nat.reduceBEq, Nat.reduceBNe, Nat.reduceLT, Nat.reduceDiv, Int.reduceNeg, Int.reduceLT, Int.reduceLE, Int.reduceEq, Int.reduceNe, Int.reduceAdd, Int.reduceSub, Int.reduceMul, Int.reduceToNat, Int.reduceBEq, Int.reduceBNe, fillP, fillE, okE, okW, bound, elS, srcS, Fin, finish, ress, resOf, one, keeps, ↓reduceIte, Dl.ap, Dl.slots, okD, isLp, zeros, reduceCtorEq, zdj, zdk, tf_frame_parted, bl_len, gt_iff_lt, hm, hp, hle, Int.toNat_natCast, hT, O, C1, hE, bl_okW, bne_self_eq_false, S, w1, w2, hs, ht]
end Go.T
