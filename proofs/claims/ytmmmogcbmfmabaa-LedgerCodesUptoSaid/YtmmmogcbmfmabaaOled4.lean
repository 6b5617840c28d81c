/- What the ledger's functions answer, on: Delete, drop, Reserve, Release, Same. -/
import Derived.Test.YtmmmogcbmfmabaaOled3
set_option linter.unusedVariables false
set_option linter.unusedSimpArgs false
set_option maxRecDepth 10000
set_option maxHeartbeats 400000
namespace Go.T
attribute [local irreducible] Run Back RS Ap
/-- The cells of no hold. -/
def zc : List TV := [.int .i64 0, .int .i64 0, .int .i64 0, .int .i64 0, .int .i64 0, .str ⟨#[]⟩]
theorem flat_z (z : List TV) : flat [.agg z] = z := by simp [flat, TV.cells]
theorem delete_aux {H : Heap} {i a b : Nat} {B : List Hd} (hB : B.length = b) {cs cs1 cs2 : List TV} (hb : live H i = some cs) (hd : a + (b + 1) ≤ cs.length / 6) (hcut : cut cs ((a + 1) * 6) (b * 6) = some (row B)) (hsp1 : splice cs (a * 6) (row B) = cs1) (hl1 : cs1.length = cs.length) (hd1 : dead cs1 = false) (hsp2 : splice cs1 ((a + b) * 6) zc = cs2) (hm : a + b ≤ 1000000) (hb0 : b ≠ 0) :
    CT n_slices_Delete_api_Hold_api_Hold [.asl true 6 i 0 (a + (b + 1)), .int .i64 a, .int .i64 (a + 1 : Nat)] H = some ⟨.asl true 6 i 0 (a + b), H.set i cs2, false⟩ := by
  have q1 : (0 : Int) ≤ a := by omega
  have q2 : (0 : Int) ≤ (a + 1 : Nat) := by omega
  have q3 : (0 : Int) ≤ (a + (b + 1) : Nat) := by omega
  have q4 : ((a : Nat) : Int) ≤ (a + 1 : Nat) := by omega
  have q5 : ((a + 1 : Nat) : Int) ≤ (a + (b + 1) : Nat) := by omega
  have q6 : ((a : Nat) : Int) ≤ (cs.length / 6 : Nat) := by omega
  have q7 : ((a + (b + 1) : Nat) : Int) ≤ (cs.length / 6 : Nat) := by omega
  have q8 : ((a + b : Nat) : Int) ≤ (a + (b + 1) : Nat) := by omega
  have q9 : (0 : Int) ≤ (a + b : Nat) := by omega
  have e1 : a + (b + 1) - (a + 1) = b := by omega
  have e2 : a + (b + 1) - (a + b) = 1 := by omega
  have r1 : a ≤ roomB := by unfold roomB; omega
  have r2 : a + (b + 1) ≤ roomB := by unfold roomB; omega
  have r3 : (a + b) * 56 ≤ roomB := by unfold roomB; omega
  have r4 : a + b ≤ roomB := by unfold roomB; omega
  have m1 : a * 6 ≤ cs.length := by omega
  have m2 : (a + b) * 6 ≤ cs.length := by omega
  have m3 : (a + b) * 6 + 6 ≤ cs.length := by omega
  have m4 : a + b ≤ cs.length / 6 := by omega
  have ne : ((a : Int) == (a + 1 : Nat)) = false := by simp; omega
  have hg := regroup_row B []
  rw [List.append_nil, hB] at hg
  have hlB : (B.map Hd.tv).length = b := by rw [List.length_map, hB]
  have hi := live_lt hb
  have hb1 : live (H.set i cs1) i = some cs1 := live_set_eq hi hd1
  have okw := okW_tv' B
  have hz : TV.lts 0 [.int .i64 0, .int .i64 0, .int .i64 0, .int .i64 0, .int .i64 0, .str ⟨#[]⟩] = true := rfl
  unfold zc at hsp2
  refine callT_of rfl tab_slices_Delete_api_Hold_api_Hold ?_
  simp (maxSteps := 4000000) only [↓set16, ↓sl16, zaa, zab, zac, zad, zz0, zz1, zz2, zz3, zz4, zae, zaf, zag, zah, zai, zaj, zak, zal, zam, zan, zao, zap, zaq, zar, zas, zat, zau, zav, zaw, zax, zay, zaz, zba, zbb, zbc, zbd, zbe, zbf, zbg, zbh, zbi, zbj, zbk, zbl, zbm, zbn, zbo, zbp, zbq, zbr, zbs, zbt, zbu, zbv, zbw, zbx, zby, zbz, zca, zcb, zcc, zcd, zce, zcf, zcg, zch, zci, zcj, zck, zcl, zcm, zcn, ne_eq, zco, zcp, zcq, zcr, zcs, List.replicate, zct, zcu, zcv, zcw, zcx, zcy, zcz, zda, zdb, zdc, zdd, zde, zdf, zdg, zdh, zdi, killT, delta, tak, ev, ad, taks, evs, nL, getH, pack, arith, callD, Nat.reduceAdd, Nat.reduceSub, Nat.reduceMul, Nat.reduceLeDiff, Nat.reduceEqDiff, Nat.reduceBEq, Nat.reduceBNe, Nat.reduceLT, Nat.reduceDiv, Int.reduceNeg, Int.reduceLT, Int.reduceLE, Int.reduceEq, Int.reduceNe, Int.reduceAdd, Int.reduceSub, Int.reduceMul, Int.reduceToNat, Int.reduceBEq, Int.reduceBNe, fillP, fillE, okE, okW, bound, elS, srcS, Fin, finish, ress, resOf, one, keeps, ↓reduceIte, Dl.ap, Dl.slots, okD, isLp, zeros, reduceCtorEq, zdj, zdk, tf_slices_Delete_api_Hold_api_Hold, q1, q2, q3, q4, q5, q6, q7, q8, q9, Int.le_refl, Int.toNat_natCast, ne, hb, Nat.sub_zero, hd, r1, r2, e1, hcut, row_shr0, row_elt, hg, hlB, hb0, r3, r4, m1, m2, m3, m4, okw, flat_tv, hsp1, lts_tv, hb1, hl1, e2, flat_z, hz, hsp2, List.set_set, show (0 : Nat) < 6 by decide]
theorem delete_aux0 {H : Heap} {i a : Nat} {cs cs2 : List TV} (hb : live H i = some cs) (hd : a + 1 ≤ cs.length / 6) (hsp2 : splice cs (a * 6) zc = cs2) (hm : a ≤ 1000000) :
    CT n_slices_Delete_api_Hold_api_Hold [.asl true 6 i 0 (a + 1), .int .i64 a, .int .i64 (a + 1 : Nat)] H = some ⟨.asl true 6 i 0 a, H.set i cs2, false⟩ := by
  have q1 : (0 : Int) ≤ a := by omega
  have q2 : (0 : Int) ≤ (a + 1 : Nat) := by omega
  have q4 : ((a : Nat) : Int) ≤ (a + 1 : Nat) := by omega
  have q6 : ((a : Nat) : Int) ≤ (cs.length / 6 : Nat) := by omega
  have q7 : ((a + 1 : Nat) : Int) ≤ (cs.length / 6 : Nat) := by omega
  have e1 : a + 1 - (a + 1) = 0 := by omega
  have e2 : a + 1 - a = 1 := by omega
  have e3 : ¬ a + 1 = 0 := by omega
  have r1 : a ≤ roomB := by unfold roomB; omega
  have r2 : a + 1 ≤ roomB := by unfold roomB; omega
  have r3 : a * 56 ≤ roomB := by unfold roomB; omega
  have m1 : a * 6 ≤ cs.length := by omega
  have m3 : a * 6 + 6 ≤ cs.length := by omega
  have m4 : a ≤ cs.length / 6 := by omega
  have ne : ((a : Int) == (a + 1 : Nat)) = false := by simp; omega
  have hz : TV.lts 0 [.int .i64 0, .int .i64 0, .int .i64 0, .int .i64 0, .int .i64 0, .str ⟨#[]⟩] = true := rfl
  unfold zc at hsp2
  refine callT_of rfl tab_slices_Delete_api_Hold_api_Hold ?_
  simp (maxSteps := 4000000) only [↓set16, ↓sl16, zaa, zab, zac, zad, zz0, zz1, zz2, zz3, zz4, zae, zaf, zag, zah, zai, zaj, zak, zal, zam, zan, zao, zap, zaq, zar, zas, zat, zau, zav, zaw, zax, zay, zaz, zba, zbb, zbc, zbd, zbe, zbf, zbg, zbh, zbi, zbj, zbk, zbl, zbm, zbn, zbo, zbp, zbq, zbr, zbs, zbt, zbu, zbv, zbw, zbx, zby, zbz, zca, zcb, zcc, zcd, zce, zcf, zcg, zch, zci, zcj, zck, zcl, zcm, zcn, ne_eq, zco, zcp, zcq, zcr, zcs, List.replicate, zct, zcu, zcv, zcw, zcx, zcy, zcz, zda, zdb, zdc, zdd, zde, zdf, zdg, zdh, zdi, killT, delta, tak, ev, ad, taks, evs, nL, getH, pack, arith, callD, Nat.reduceAdd, Nat.reduceSub, Nat.reduceMul, Nat.reduceLeDiff, Nat.reduceEqDiff, Nat.reduceBEq, Nat.reduceBNe, Nat.reduceLT, Nat.reduceDiv, Int.reduceNeg, Int.reduceLT, Int.reduceLE, Int.reduceEq, Int.reduceNe, Int.reduceAdd, Int.reduceSub, Int.reduceMul, Int.reduceToNat, Int.reduceBEq, Int.reduceBNe, fillP, fillE, okE, okW, bound, elS, srcS, Fin, finish, ress, resOf, one, keeps, ↓reduceIte, Dl.ap, Dl.slots, okD, isLp, zeros, reduceCtorEq, zdj, zdk, tf_slices_Delete_api_Hold_api_Hold, q1, q2, q4, q6, q7, Int.le_refl, Int.toNat_natCast, ne, hb, Nat.sub_zero, hd, r1, r2, e1, e2, e3, r3, m1, m3, m4, flat_z, hz, hsp2, List.set_set, show (0 : Nat) < 6 by decide]
theorem splice_app (A X B V : List TV) (hX : X.length = V.length) : splice (A ++ (X ++ B)) A.length V = A ++ (V ++ B) := by
  unfold splice
  rw [List.take_left, ← hX, ← List.append_assoc A X B, ← List.length_append, List.drop_left]
theorem zc_len : zc.length = 6 := rfl
/-- One hold is taken out of a row. -/
theorem hold_Delete {H : Heap} {i : Nat} (A B : List Hd) (h : Hd) (z : List TV) (hb : live H i = some (row (A ++ h :: B) ++ z)) (hm : (A ++ h :: B).length ≤ 1000000) :
    CT n_slices_Delete_api_Hold_api_Hold [.asl true 6 i 0 (A ++ h :: B).length, .int .i64 A.length, .int .i64 (A.length + 1 : Nat)] H = some ⟨.asl true 6 i 0 (A ++ B).length, H.set i (row (A ++ B) ++ (zc ++ z)), false⟩ := by
  have hlen : (row (A ++ h :: B) ++ z).length = A.length * 6 + (6 + B.length * 6) + z.length := by
    rw [List.length_append, row_len, List.length_append, List.length_cons]; omega
  have hAB : (A ++ h :: B).length = A.length + (B.length + 1) := by rw [List.length_append, List.length_cons]
  have hAB' : (A ++ B).length = A.length + B.length := by rw [List.length_append]
  have hd : A.length + (B.length + 1) ≤ (row (A ++ h :: B) ++ z).length / 6 := by rw [hlen]; omega
  have hcs : row (A ++ h :: B) ++ z = row A ++ (h.cells ++ (row B ++ z)) := by rw [row_app, row_cons]; simp only [List.append_assoc]
  rw [hAB, hAB']
  rw [hAB] at hm
  by_cases hB : B.length = 0
  · have hBn : B = [] := List.eq_nil_of_length_eq_zero hB
    rw [hB]
    rw [hB] at hd
    refine delete_aux0 hb hd ?_ (by omega)
    rw [hcs, ← row_len A, splice_app (row A) h.cells _ zc rfl, hBn, List.append_nil]; rfl
  · have hb0 : B.length ≠ 0 := hB
    obtain ⟨R, L, hR, hL⟩ : ∃ R L : List TV, h.cells ++ row B = R ++ L ∧ R.length = B.length * 6 ∧ L.length = 6 := by
      refine ⟨(h.cells ++ row B).take (B.length * 6), (h.cells ++ row B).drop (B.length * 6), (List.take_append_drop _ _).symm, ?_, ?_⟩
      · rw [List.length_take, List.length_append, row_len, Hd.w6]; omega
      · rw [List.length_drop, List.length_append, row_len, Hd.w6]; omega
    have hcs2 : row (A ++ h :: B) ++ z = row A ++ (R ++ (L ++ z)) := by
      rw [hcs, ← List.append_assoc h.cells, hR]; simp only [List.append_assoc]
    refine delete_aux (cs1 := row A ++ (row B ++ (L ++ z))) rfl hb hd ?_ ?_ ?_ ?_ ?_ (by omega) hb0
    · rw [hcs]
      unfold cut
      have h6 : (A.length + 1) * 6 = (row A ++ h.cells).length := by rw [List.length_append, row_len, Hd.w6]; omega
      rw [if_pos (by simp only [List.length_append, row_len, Hd.w6]; omega), h6, ← List.append_assoc (row A), List.drop_left, List.take_left' (row_len B)]
    · rw [hcs2, ← row_len A, splice_app _ _ _ _ (by rw [hL.1, row_len])]
    · rw [hcs2]; simp only [List.length_append, row_len, hL.1]
    · cases A with
      | nil => cases B with
        | nil => exact absurd rfl hB
        | cons => rfl
      | cons => rfl
    · rw [show (A.length + B.length) * 6 = (row A ++ row B).length by rw [List.length_append, row_len, row_len]; omega, ← List.append_assoc (row A), splice_app _ _ _ _ (by rw [hL.2, zc_len]), row_app]
end Go.T
