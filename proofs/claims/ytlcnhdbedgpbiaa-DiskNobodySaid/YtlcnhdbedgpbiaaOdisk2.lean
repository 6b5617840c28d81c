/- What the disk's functions answer, on. -/
import Derived.Test.YtlcnhdbedgpbiaaOdisk
set_option linter.unusedVariables false
set_option linter.unusedSimpArgs false
set_option maxRecDepth 10000
namespace Go.T
theorem awake_ok : CT n_law09_awake [] [] = some ⟨.bool true, [], false⟩ := (callT_iff tab ext).2 ⟨60, by kernel_rfl⟩
theorem disk_New {H : Heap} (n room : Int) : CT n_disk_New [.int .i64 n, .int .i64 room] H = some (if n < 1 ∨ 16 < n ∨ room < 0 ∨ 524288 < room then ⟨.tup [.nilp, .int .i64 1], H, false⟩ else
    ⟨.tup [.ptr (H.length + 1) 0, .int .i64 0], H ++ [flat (List.replicate n.toNat (.agg [.nils, .int .i64 0])), [.asl true 2 H.length 0 n.toNat, .int .i64 room]], false⟩) := by
  refine callT_of rfl tab_disk_New ?_
  (try simp (maxSteps := 4000000) only [↓set16, ↓sl16, trim_set, lts_nil, trim_zero, trim_one, zz0, zz1, zz2, zz3, zz4, List.set_cons_zero, List.set_cons_succ, Bool.not_false, Bool.not_true, Bool.and_self, Bool.and_true, Bool.and_false, Bool.true_and, Bool.false_and, Bool.or_false, Bool.false_or, Bool.or_true, Bool.true_or, if_true, if_false, Bool.false_eq_true, List.getElem?_cons_zero, List.getElem?_cons_succ, List.map_cons, List.map_nil, List.headD_cons, List.all_cons, List.all_nil, List.append_nil, List.nil_append, List.cons_append, List.length_cons, List.length_nil, Nat.zero_add, Nat.add_zero, Nat.one_mul, Nat.mul_one, Nat.zero_mul, Nat.zero_le, Option.map_some, Option.map_none, List.drop_zero, List.drop_succ_cons, List.take_zero, List.take_succ_cons, List.drop_nil, List.take_nil, Option.isNone_none, Option.isSome_none, Option.isNone_some, Option.isSome_some, Option.bind_some, Option.bind_none, decide_true, decide_false, decide_eq_true_eq, decide_eq_false_iff_not, and_true, true_and, and_false, false_and, or_true, true_or, or_false, false_or, not_true_eq_false, not_false_eq_true, ne_eq, Bool.not_eq_true, Bool.not_eq_false, Bool.not_eq_eq_eq_not, eq_self, ite_self, List.replicate, Bool.and_eq_true, List.contains_nil, List.any_nil, List.any_cons, List.elem_nil, St.mk.injEq, List.foldl_cons, List.foldl_nil, flat_zeros, Bool.true_eq_false, Option.some.injEq, Ret.mk.injEq, and_self, TV.tup.injEq, List.cons.injEq, TV.int.injEq, killT, delta, tak, ev, ad, taks, evs, nL, getH, pack, arith, callD, Nat.reduceAdd, Nat.reduceSub, Nat.reduceMul, Nat.reduceLeDiff, Nat.reduceEqDiff, Nat.reduceBEq, Nat.reduceBNe, Nat.reduceLT, Nat.reduceDiv, Int.reduceNeg, Int.reduceLT, Int.reduceLE, Int.reduceEq, Int.reduceNe, Int.reduceAdd, Int.reduceSub, Int.reduceMul, Int.reduceToNat, Int.reduceBEq, Int.reduceBNe, fillP, fillE, okE, okW, bound, elS, srcS, Fin, finish, ress, resOf, one, keeps, reduceIte, Dl.ap, Dl.slots, okD, isLp, zeros, reduceCtorEq, List.append_assoc, List.length_append, tf_disk_New]) <;> repeat' (first | (exfalso; omega) | (split <;> (try simp (maxSteps := 4000000) only [↓set16, ↓sl16, trim_set, lts_nil, trim_zero, trim_one, zz0, zz1, zz2, zz3, zz4, List.set_cons_zero, List.set_cons_succ, Bool.not_false, Bool.not_true, Bool.and_self, Bool.and_true, Bool.and_false, Bool.true_and, Bool.false_and, Bool.or_false, Bool.false_or, Bool.or_true, Bool.true_or, if_true, if_false, Bool.false_eq_true, List.getElem?_cons_zero, List.getElem?_cons_succ, List.map_cons, List.map_nil, List.headD_cons, List.all_cons, List.all_nil, List.append_nil, List.nil_append, List.cons_append, List.length_cons, List.length_nil, Nat.zero_add, Nat.add_zero, Nat.one_mul, Nat.mul_one, Nat.zero_mul, Nat.zero_le, Option.map_some, Option.map_none, List.drop_zero, List.drop_succ_cons, List.take_zero, List.take_succ_cons, List.drop_nil, List.take_nil, Option.isNone_none, Option.isSome_none, Option.isNone_some, Option.isSome_some, Option.bind_some, Option.bind_none, decide_true, decide_false, decide_eq_true_eq, decide_eq_false_iff_not, and_true, true_and, and_false, false_and, or_true, true_or, or_false, false_or, not_true_eq_false, not_false_eq_true, ne_eq, Bool.not_eq_true, Bool.not_eq_false, Bool.not_eq_eq_eq_not, eq_self, ite_self, List.replicate, Bool.and_eq_true, List.contains_nil, List.any_nil, List.any_cons, List.elem_nil, St.mk.injEq, List.foldl_cons, List.foldl_nil, flat_zeros, Bool.true_eq_false, Option.some.injEq, Ret.mk.injEq, and_self, TV.tup.injEq, List.cons.injEq, TV.int.injEq, killT, delta, tak, ev, ad, taks, evs, nL, getH, pack, arith, callD, Nat.reduceAdd, Nat.reduceSub, Nat.reduceMul, Nat.reduceLeDiff, Nat.reduceEqDiff, Nat.reduceBEq, Nat.reduceBNe, Nat.reduceLT, Nat.reduceDiv, Int.reduceNeg, Int.reduceLT, Int.reduceLE, Int.reduceEq, Int.reduceNe, Int.reduceAdd, Int.reduceSub, Int.reduceMul, Int.reduceToNat, Int.reduceBEq, Int.reduceBNe, fillP, fillE, okE, okW, bound, elS, srcS, Fin, finish, ress, resOf, one, keeps, reduceIte, Dl.ap, Dl.slots, okD, isLp, zeros, reduceCtorEq, List.append_assoc, List.length_append, tf_disk_New])))
  · exact trim_out (by simp [rowT, rowA, rowC]) (by simp [TV.lt, TV.lts])
  · unfold roomB at *; omega
theorem OwnB.shr0 {c : TV} (h : OwnB c) : c.shr0 = .sl .shr ((bs c).map tb) := by
  rcases h with rfl | ⟨s, b, rfl⟩
  · rfl
  · simp only [TV.shr0, bs, map_byteOf]
theorem OwnB.lb {c : TV} (h : OwnB c) : isLb c = false := by rcases h with rfl | ⟨s, b, rfl⟩ <;> rfl
theorem bs_own (s : Bool) (b : List UInt8) : bs (.sl (.own 1 s) (b.map tb)) = b := map_byteOf b
/-- A slot is written. -/
def put (sl : List Slot) (k : Nat) (c : TV) : List Slot := sl.modify k fun s => { s with c := c }
theorem put_eq {sl : List Slot} {k : Nat} {s : Slot} (hk : sl[k]? = some s) (c : TV) : put sl k c = sl.set k ⟨c, s.sure⟩ := by
  unfold put
  apply List.ext_getElem?
  intro i
  rw [List.getElem?_modify, List.getElem?_set]
  by_cases h : k = i
  · subst h
    have := (List.getElem?_eq_some_iff.1 hk).1
    have e := (List.getElem?_eq_some_iff.1 hk).2
    simp [this, e]
  · simp [h]
theorem DiskAt.put {H : Heap} {i j : Nat} {sl : List Slot} {room : Int} (hd : DiskAt H i j sl room) {sl' : List Slot} (hl : sl'.length = sl.length) (hok : ∀ s ∈ sl', OwnB s.c) (h2 : 1 ≤ sl.length) : DiskAt (H.set j (sl'.flatMap Slot.cells)) i j sl' room where
  box := by rw [live_set_ne (fun h => hd.ne h.symm), hd.box, hl]
  row := live_set_eq (live_lt hd.row) (by
    cases sl' with
    | nil => simp at hl; omega
    | cons a l => exact dead_two)
  ok := hok
  ne := hd.ne
theorem put_length (sl : List Slot) (k : Nat) (c : TV) : (put sl k c).length = sl.length := by simp [put]
theorem dead_slots {sl : List Slot} (h : 1 ≤ sl.length) : dead (sl.flatMap Slot.cells) = false := by
  cases sl with
  | nil => simp at h
  | cons a l => exact dead_two
theorem sp_put {sl : List Slot} {k : Nat} {s : Slot} (hs : sl[k]? = some s) (c : TV) : splice (sl.flatMap Slot.cells) (k * 2) [c] = (put sl k c).flatMap Slot.cells := by
  rw [put_eq hs]; exact splice_row (o := 0) Slot.w2 hs (Nat.le_succ 1) rfl
theorem put_get {sl : List Slot} {k : Nat} {s : Slot} (hs : sl[k]? = some s) (c : TV) : (put sl k c)[k]? = some ⟨c, s.sure⟩ := by
  rw [put_eq hs, List.getElem?_set_self (List.getElem?_eq_some_iff.1 hs).1]
theorem put_put (sl : List Slot) (k : Nat) (c c' : TV) : put (put sl k c) k c' = put sl k c' := by
  unfold put
  apply List.ext_getElem?
  intro i
  simp only [List.getElem?_modify]
  split <;> simp [Function.comp_def]
theorem disk_Append {H : Heap} {i j : Nat} {sl : List Slot} {room : Int} (hd : DiskAt H i j sl room) (n : Int) (b : List UInt8) (hb : b.length ≤ 1000000) {s : Slot} (hn : 0 ≤ n) (hs : sl[n.toNat]? = some s) (hsl : s.b.length ≤ 1000000) (hr : 0 ≤ room ∧ room ≤ 524288) :
    CT n_disk_Disk_Append [.ptr i 0, .int .i64 n, .sl .shr (b.map tb)] H = some (if (b.length : Int) > room - s.b.length then ⟨.int .i64 7, H, false⟩ else ⟨.int .i64 0, H.set j ((put sl n.toNat (.sl (.own 1 false) ((s.b ++ b).map tb))).flatMap Slot.cells), false⟩) := by
  have hlen : n.toNat < sl.length := (List.getElem?_eq_some_iff.1 hs).1
  have hat := disk_at hd n
  have e0 : errAt sl n = 0 := by grind [errAt]
  rw [e0] at hat
  have hso := hd.ok s (List.mem_of_getElem? hs)
  have c0 : cut (sl.flatMap Slot.cells) (n.toNat * 2) 1 = some [s.c] := cut_row (o := 0) Slot.w2 hs rfl
  have hw : IntKind.i64.wrap (room - s.b.length) = room - s.b.length := IntWalk.i64_in _ (by omega)
  have hbs : bs s.c = s.b := rfl
  have hg := getD_live hd.row
  have sp := fun c => sp_put hs c
  have sp2 : ∀ c c', splice ((put sl n.toNat c).flatMap Slot.cells) (n.toNat * 2) [c'] = (put sl n.toNat c').flatMap Slot.cells := fun c c' => by rw [sp_put (put_get hs c), put_put]
  have hj := live_lt hd.row
  have hl : ∀ c, live (H.set j ((put sl n.toNat c).flatMap Slot.cells)) j = some ((put sl n.toNat c).flatMap Slot.cells) := fun c => live_set_eq hj (dead_slots (by rw [put_length]; omega))
  have hg2 : ∀ c, (H.set j c).getD j [] = c := fun c => getD_set hj
  have hma : ∀ l : List UInt8, l.map tb ++ b.map tb = (l ++ b).map tb := fun l => List.map_append.symm
  have hrb : ∀ k : Nat, k ≤ 2000000 → k ≤ roomB := fun k h => by unfold roomB; omega
  have hln : ∀ c, n.toNat * 2 + 1 ≤ ((put sl n.toNat c).flatMap Slot.cells).length := fun c => by rw [row_length Slot.w2, put_length]; omega
  refine callT_of rfl tab_disk_Disk_Append ?_
  by_cases hf : (b.length : Int) > room - s.b.length
  · simp only [if_pos hf]
    simp (maxSteps := 4000000) only [↓set16, ↓sl16, trim_set, lts_nil, trim_zero, trim_one, zz0, zz1, zz2, zz3, zz4, List.set_cons_zero, List.set_cons_succ, Bool.not_false, Bool.not_true, Bool.and_self, Bool.and_true, Bool.and_false, Bool.true_and, Bool.false_and, Bool.or_false, Bool.false_or, Bool.or_true, Bool.true_or, if_true, if_false, Bool.false_eq_true, List.getElem?_cons_zero, List.getElem?_cons_succ, List.map_cons, List.map_nil, List.headD_cons, List.all_cons, List.all_nil, List.append_nil, List.nil_append, List.cons_append, List.length_cons, List.length_nil, Nat.zero_add, Nat.add_zero, Nat.one_mul, Nat.mul_one, Nat.zero_mul, Nat.zero_le, Option.map_some, Option.map_none, List.drop_zero, List.drop_succ_cons, List.take_zero, List.take_succ_cons, List.drop_nil, List.take_nil, Option.isNone_none, Option.isSome_none, Option.isNone_some, Option.isSome_some, Option.bind_some, Option.bind_none, decide_true, decide_false, decide_eq_true_eq, decide_eq_false_iff_not, and_true, true_and, and_false, false_and, or_true, true_or, or_false, false_or, not_true_eq_false, not_false_eq_true, ne_eq, Bool.not_eq_true, Bool.not_eq_false, Bool.not_eq_eq_eq_not, eq_self, ite_self, List.replicate, Bool.and_eq_true, List.contains_nil, List.any_nil, List.any_cons, List.elem_nil, St.mk.injEq, List.foldl_cons, List.foldl_nil, flat_zeros, Bool.true_eq_false, Option.some.injEq, Ret.mk.injEq, and_self, TV.tup.injEq, List.cons.injEq, TV.int.injEq, killT, delta, tak, ev, ad, taks, evs, nL, getH, pack, arith, callD, Nat.reduceAdd, Nat.reduceSub, Nat.reduceMul, Nat.reduceLeDiff, Nat.reduceEqDiff, Nat.reduceBEq, Nat.reduceBNe, Nat.reduceLT, Nat.reduceDiv, Int.reduceNeg, Int.reduceLT, Int.reduceLE, Int.reduceEq, Int.reduceNe, Int.reduceAdd, Int.reduceSub, Int.reduceMul, Int.reduceToNat, Int.reduceBEq, Int.reduceBNe, fillP, fillE, okE, okW, bound, elS, srcS, Fin, finish, ress, resOf, one, keeps, reduceIte, Dl.ap, Dl.slots, okD, isLp, zeros, reduceCtorEq, List.append_assoc, List.length_append, tf_disk_Disk_Append, hd.box, hd.row, hat, c0, hso.shr0, hso.lb, hbs, List.length_map, hw, if_pos hf, hf]
  · simp only [if_neg hf]
    rcases hso with hc | ⟨g, l, hc⟩
    · have hb0 : s.b = [] := by rw [← hbs, hc]; rfl
      rw [hb0] at hf hw ⊢
      rw [hc] at c0
      have hw' : IntKind.i64.wrap (room - ↑(0 : Nat)) = room := by rw [IntWalk.i64_in _ (by omega)]; omega
      have hf' : ¬ (b.length : Int) > room := by simpa using hf
      simp (maxSteps := 4000000) only [↓set16, ↓sl16, trim_set, lts_nil, trim_zero, trim_one, zz0, zz1, zz2, zz3, zz4, List.set_cons_zero, List.set_cons_succ, Bool.not_false, Bool.not_true, Bool.and_self, Bool.and_true, Bool.and_false, Bool.true_and, Bool.false_and, Bool.or_false, Bool.false_or, Bool.or_true, Bool.true_or, if_true, if_false, Bool.false_eq_true, List.getElem?_cons_zero, List.getElem?_cons_succ, List.map_cons, List.map_nil, List.headD_cons, List.all_cons, List.all_nil, List.append_nil, List.nil_append, List.cons_append, List.length_cons, List.length_nil, Nat.zero_add, Nat.add_zero, Nat.one_mul, Nat.mul_one, Nat.zero_mul, Nat.zero_le, Option.map_some, Option.map_none, List.drop_zero, List.drop_succ_cons, List.take_zero, List.take_succ_cons, List.drop_nil, List.take_nil, Option.isNone_none, Option.isSome_none, Option.isNone_some, Option.isSome_some, Option.bind_some, Option.bind_none, decide_true, decide_false, decide_eq_true_eq, decide_eq_false_iff_not, and_true, true_and, and_false, false_and, or_true, true_or, or_false, false_or, not_true_eq_false, not_false_eq_true, ne_eq, Bool.not_eq_true, Bool.not_eq_false, Bool.not_eq_eq_eq_not, eq_self, ite_self, List.replicate, Bool.and_eq_true, List.contains_nil, List.any_nil, List.any_cons, List.elem_nil, St.mk.injEq, List.foldl_cons, List.foldl_nil, flat_zeros, Bool.true_eq_false, Option.some.injEq, Ret.mk.injEq, and_self, TV.tup.injEq, List.cons.injEq, TV.int.injEq, killT, delta, tak, ev, ad, taks, evs, nL, getH, pack, arith, callD, Nat.reduceAdd, Nat.reduceSub, Nat.reduceMul, Nat.reduceLeDiff, Nat.reduceEqDiff, Nat.reduceBEq, Nat.reduceBNe, Nat.reduceLT, Nat.reduceDiv, Int.reduceNeg, Int.reduceLT, Int.reduceLE, Int.reduceEq, Int.reduceNe, Int.reduceAdd, Int.reduceSub, Int.reduceMul, Int.reduceToNat, Int.reduceBEq, Int.reduceBNe, fillP, fillE, okE, okW, bound, elS, srcS, Fin, finish, ress, resOf, one, keeps, reduceIte, Dl.ap, Dl.slots, okD, isLp, zeros, reduceCtorEq, List.append_assoc, List.length_append, tf_disk_Disk_Append, hd.box, hd.row, hat, c0, hbs, sp, sp2, hl, hg, hg2, List.set_set, hln, lts_bs, okb, hrb b.length (by omega), List.length_map, hw', hf']
    · have hb0 : s.b = l := by rw [← hbs, hc]; exact bs_own g l
      rw [hb0] at hf hw hsl ⊢
      rw [hc] at c0
      simp (maxSteps := 4000000) only [↓set16, ↓sl16, trim_set, lts_nil, trim_zero, trim_one, zz0, zz1, zz2, zz3, zz4, List.set_cons_zero, List.set_cons_succ, Bool.not_false, Bool.not_true, Bool.and_self, Bool.and_true, Bool.and_false, Bool.true_and, Bool.false_and, Bool.or_false, Bool.false_or, Bool.or_true, Bool.true_or, if_true, if_false, Bool.false_eq_true, List.getElem?_cons_zero, List.getElem?_cons_succ, List.map_cons, List.map_nil, List.headD_cons, List.all_cons, List.all_nil, List.append_nil, List.nil_append, List.cons_append, List.length_cons, List.length_nil, Nat.zero_add, Nat.add_zero, Nat.one_mul, Nat.mul_one, Nat.zero_mul, Nat.zero_le, Option.map_some, Option.map_none, List.drop_zero, List.drop_succ_cons, List.take_zero, List.take_succ_cons, List.drop_nil, List.take_nil, Option.isNone_none, Option.isSome_none, Option.isNone_some, Option.isSome_some, Option.bind_some, Option.bind_none, decide_true, decide_false, decide_eq_true_eq, decide_eq_false_iff_not, and_true, true_and, and_false, false_and, or_true, true_or, or_false, false_or, not_true_eq_false, not_false_eq_true, ne_eq, Bool.not_eq_true, Bool.not_eq_false, Bool.not_eq_eq_eq_not, eq_self, ite_self, List.replicate, Bool.and_eq_true, List.contains_nil, List.any_nil, List.any_cons, List.elem_nil, St.mk.injEq, List.foldl_cons, List.foldl_nil, flat_zeros, Bool.true_eq_false, Option.some.injEq, Ret.mk.injEq, and_self, TV.tup.injEq, List.cons.injEq, TV.int.injEq, killT, delta, tak, ev, ad, taks, evs, nL, getH, pack, arith, callD, Nat.reduceAdd, Nat.reduceSub, Nat.reduceMul, Nat.reduceLeDiff, Nat.reduceEqDiff, Nat.reduceBEq, Nat.reduceBNe, Nat.reduceLT, Nat.reduceDiv, Int.reduceNeg, Int.reduceLT, Int.reduceLE, Int.reduceEq, Int.reduceNe, Int.reduceAdd, Int.reduceSub, Int.reduceMul, Int.reduceToNat, Int.reduceBEq, Int.reduceBNe, fillP, fillE, okE, okW, bound, elS, srcS, Fin, finish, ress, resOf, one, keeps, reduceIte, Dl.ap, Dl.slots, okD, isLp, zeros, reduceCtorEq, List.append_assoc, List.length_append, tf_disk_Disk_Append, hd.box, hd.row, hat, c0, hbs, sp, sp2, hl, hg, hg2, List.set_set, hln, lts_bs, okb, hma, hrb (l.length + b.length) (by omega), List.length_map, hw, hf]
end Go.T
