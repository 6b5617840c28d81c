/- What the disk's functions answer, on: Read, cut, keeper, Crash. -/
import Derived.Test.YtlcnhdbedgpbiaaOdisk3
set_option linter.unusedVariables false
set_option linter.unusedSimpArgs false
set_option maxRecDepth 10000
set_option maxHeartbeats 400000
namespace Go.T
attribute [local irreducible] Run Back RS Ap
/-- A slot's bytes as a copy that was handed out. -/
def gave (b : List UInt8) : TV := if b.length = 0 then .nils else .sl (.own 1 false) (b.map tb)
theorem clone_bytes {H : Heap} (b : List UInt8) (hb : b.length ≤ 2000000) : CT n_slices_Clone_byte_byte [.sl .shr (b.map tb)] H = some (if b.length = 0 then ⟨.nils, H, false⟩ else ⟨.asl false 1 H.length 0 b.length, H ++ [b.map tb], false⟩) := by
  refine callT_ext (c := cloneC false 1 1) rfl ?_
  have h1 : b.length ≤ roomB := by unfold roomB; omega
  simp only [cloneC, elS, okW_tb, List.length_map, Nat.mul_one, h1, z_ao_sl, flat_tb, true_and, and_true, if_true, and_self]
  split <;> rfl
theorem dead_bytes (b : List UInt8) : dead (b.map tb) = false := by
  cases b with
  | nil => rfl
  | cons a b => cases b <;> rfl
theorem trim_clone {H : Heap} (b : List UInt8) : trim true H.length ⟨.asl false 1 H.length 0 b.length, H ++ [b.map tb], false⟩ = ⟨.sl (.own 1 false) (b.map tb), H, false⟩ := by
  have hl : live (H ++ [b.map tb]) H.length = some (b.map tb) := live_app_eq (dead_bytes b)
  have hs : (b.map tb).map TV.shr0 = b.map tb := by simp [tb, TV.shr0]
  have he : (b.map tb).all TV.isElt = true := by simp [tb, TV.isElt, TV.isCell]
  have ht : (b.map tb).take (b.length * 1) = b.map tb := by rw [List.take_of_length_le]; simp
  have hr : regroup false 1 b.length (b.map tb) = b.map tb := by
    have := regroup_one (b.map tb); rw [List.length_map] at this; exact this
  have hlt := lts_b H.length b
  have he' : ∀ x ∈ (b.map tb).take b.length, x.isElt = true := fun x hx => List.all_eq_true.1 he x (List.mem_of_mem_take hx)
  simp [trim, rowT, rowA, rowC, frzT, frzA, frzC, hl, hs, he, ht, hr, TV.lt, hlt]
  rw [if_pos he']
  simp [TV.lt, hlt]
theorem disk_Read {H : Heap} {i j : Nat} {sl : List Slot} {room : Int} (hd : DiskAt H i j sl room) (n : Int) {s : Slot} (hn : 0 ≤ n) (hs : sl[n.toNat]? = some s) (hb : s.b.length ≤ 2000000) :
    CT n_disk_Disk_Read [.ptr i 0, .int .i64 n] H = some ⟨.tup [gave s.b, .int .i64 0], H, false⟩ := by
  have hlen : n.toNat < sl.length := (List.getElem?_eq_some_iff.1 hs).1
  have hat := disk_at hd n
  have e0 : errAt sl n = 0 := by grind [errAt]
  rw [e0] at hat
  have hso := hd.ok s (List.mem_of_getElem? hs)
  have c0 : cut (sl.flatMap Slot.cells) (n.toNat * 2) 1 = some [s.c] := cut_row (o := 0) Slot.w2 hs rfl
  have hbs : bs s.c = s.b := rfl
  have hC := clone_bytes (H := H) s.b hb
  by_cases h0 : s.b.length = 0
  · have hg : gave s.b = .nils := if_pos h0
    rw [hg]
    simp only [if_pos h0] at hC
    refine callT_of rfl tab_disk_Disk_Read ?_
    simp (maxSteps := 4000000) only [↓set16, ↓sl16, trim_set, lts_nil, trim_zero, trim_one, zz0, zz1, zz2, zz3, zz4, List.set_cons_zero, List.set_cons_succ, Bool.not_false, Bool.not_true, Bool.and_self, Bool.and_true, Bool.and_false, Bool.true_and, Bool.false_and, Bool.or_false, Bool.false_or, Bool.or_true, Bool.true_or, if_true, if_false, Bool.false_eq_true, List.getElem?_cons_zero, List.getElem?_cons_succ, List.map_cons, List.map_nil, List.headD_cons, List.all_cons, List.all_nil, List.append_nil, List.nil_append, List.cons_append, List.length_cons, List.length_nil, Nat.zero_add, Nat.add_zero, Nat.one_mul, Nat.mul_one, Nat.zero_mul, Nat.zero_le, Option.map_some, Option.map_none, List.drop_zero, List.drop_succ_cons, List.take_zero, List.take_succ_cons, List.drop_nil, List.take_nil, Option.isNone_none, Option.isSome_none, Option.isNone_some, Option.isSome_some, Option.bind_some, Option.bind_none, decide_true, decide_false, decide_eq_true_eq, decide_eq_false_iff_not, and_true, true_and, and_false, false_and, or_true, true_or, or_false, false_or, not_true_eq_false, not_false_eq_true, ne_eq, Bool.not_eq_true, Bool.not_eq_false, Bool.not_eq_eq_eq_not, eq_self, ite_self, List.replicate, Bool.and_eq_true, List.contains_nil, List.any_nil, List.any_cons, List.elem_nil, St.mk.injEq, List.foldl_cons, List.foldl_nil, flat_zeros, Bool.true_eq_false, Option.some.injEq, Ret.mk.injEq, and_self, TV.tup.injEq, List.cons.injEq, TV.int.injEq, killT, delta, tak, ev, ad, taks, evs, nL, getH, pack, arith, callD, Nat.reduceAdd, Nat.reduceSub, Nat.reduceMul, Nat.reduceLeDiff, Nat.reduceEqDiff, Nat.reduceBEq, Nat.reduceBNe, Nat.reduceLT, Nat.reduceDiv, Int.reduceNeg, Int.reduceLT, Int.reduceLE, Int.reduceEq, Int.reduceNe, Int.reduceAdd, Int.reduceSub, Int.reduceMul, Int.reduceToNat, Int.reduceBEq, Int.reduceBNe, fillP, fillE, okE, okW, bound, elS, srcS, Fin, finish, ress, resOf, one, keeps, reduceIte, Dl.ap, Dl.slots, okD, isLp, zeros, reduceCtorEq, List.append_assoc, List.length_append, tf_disk_Disk_Read, hd.box, hd.row, hat, c0, hso.shr0, hbs, hC]
  · have hg : gave s.b = .sl (.own 1 false) (s.b.map tb) := if_neg h0
    rw [hg]
    simp only [if_neg h0] at hC
    refine callT_of rfl tab_disk_Disk_Read ?_
    simp (maxSteps := 4000000) only [↓set16, ↓sl16, trim_set, lts_nil, trim_zero, trim_one, zz0, zz1, zz2, zz3, zz4, List.set_cons_zero, List.set_cons_succ, Bool.not_false, Bool.not_true, Bool.and_self, Bool.and_true, Bool.and_false, Bool.true_and, Bool.false_and, Bool.or_false, Bool.false_or, Bool.or_true, Bool.true_or, if_true, if_false, Bool.false_eq_true, List.getElem?_cons_zero, List.getElem?_cons_succ, List.map_cons, List.map_nil, List.headD_cons, List.all_cons, List.all_nil, List.append_nil, List.nil_append, List.cons_append, List.length_cons, List.length_nil, Nat.zero_add, Nat.add_zero, Nat.one_mul, Nat.mul_one, Nat.zero_mul, Nat.zero_le, Option.map_some, Option.map_none, List.drop_zero, List.drop_succ_cons, List.take_zero, List.take_succ_cons, List.drop_nil, List.take_nil, Option.isNone_none, Option.isSome_none, Option.isNone_some, Option.isSome_some, Option.bind_some, Option.bind_none, decide_true, decide_false, decide_eq_true_eq, decide_eq_false_iff_not, and_true, true_and, and_false, false_and, or_true, true_or, or_false, false_or, not_true_eq_false, not_false_eq_true, ne_eq, Bool.not_eq_true, Bool.not_eq_false, Bool.not_eq_eq_eq_not, eq_self, ite_self, List.replicate, Bool.and_eq_true, List.contains_nil, List.any_nil, List.any_cons, List.elem_nil, St.mk.injEq, List.foldl_cons, List.foldl_nil, flat_zeros, Bool.true_eq_false, Option.some.injEq, Ret.mk.injEq, and_self, TV.tup.injEq, List.cons.injEq, TV.int.injEq, killT, delta, tak, ev, ad, taks, evs, nL, getH, pack, arith, callD, Nat.reduceAdd, Nat.reduceSub, Nat.reduceMul, Nat.reduceLeDiff, Nat.reduceEqDiff, Nat.reduceBEq, Nat.reduceBNe, Nat.reduceLT, Nat.reduceDiv, Int.reduceNeg, Int.reduceLT, Int.reduceLE, Int.reduceEq, Int.reduceNe, Int.reduceAdd, Int.reduceSub, Int.reduceMul, Int.reduceToNat, Int.reduceBEq, Int.reduceBNe, fillP, fillE, okE, okW, bound, elS, srcS, Fin, finish, ress, resOf, one, keeps, reduceIte, Dl.ap, Dl.slots, okD, isLp, zeros, reduceCtorEq, List.append_assoc, List.length_append, tf_disk_Disk_Read, hd.box, hd.row, hat, c0, hso.shr0, hbs, hC, trim_clone]
theorem clip_bytes {H : Heap} (b : List UInt8) : CT n_slices_Clip_byte_byte [.sl .shr (b.map tb)] H = some ⟨.sl (.own 1 false) (b.map tb), H, false⟩ := by
  have okb' := okb b
  refine callT_of rfl tab_slices_Clip_byte_byte ?_
  have h0 : (0 : Int) ≤ b.length := by omega
  have h1 : (b.map tb).take b.length = b.map tb := by rw [List.take_of_length_le]; simp
  simp (maxSteps := 4000000) only [↓set16, ↓sl16, trim_set, lts_nil, trim_zero, trim_one, zz0, zz1, zz2, zz3, zz4, List.set_cons_zero, List.set_cons_succ, Bool.not_false, Bool.not_true, Bool.and_self, Bool.and_true, Bool.and_false, Bool.true_and, Bool.false_and, Bool.or_false, Bool.false_or, Bool.or_true, Bool.true_or, if_true, if_false, Bool.false_eq_true, List.getElem?_cons_zero, List.getElem?_cons_succ, List.map_cons, List.map_nil, List.headD_cons, List.all_cons, List.all_nil, List.append_nil, List.nil_append, List.cons_append, List.length_cons, List.length_nil, Nat.zero_add, Nat.add_zero, Nat.one_mul, Nat.mul_one, Nat.zero_mul, Nat.zero_le, Option.map_some, Option.map_none, List.drop_zero, List.drop_succ_cons, List.take_zero, List.take_succ_cons, List.drop_nil, List.take_nil, Option.isNone_none, Option.isSome_none, Option.isNone_some, Option.isSome_some, Option.bind_some, Option.bind_none, decide_true, decide_false, decide_eq_true_eq, decide_eq_false_iff_not, and_true, true_and, and_false, false_and, or_true, true_or, or_false, false_or, not_true_eq_false, not_false_eq_true, ne_eq, Bool.not_eq_true, Bool.not_eq_false, Bool.not_eq_eq_eq_not, eq_self, ite_self, List.replicate, Bool.and_eq_true, List.contains_nil, List.any_nil, List.any_cons, List.elem_nil, St.mk.injEq, List.foldl_cons, List.foldl_nil, flat_zeros, Bool.true_eq_false, Option.some.injEq, Ret.mk.injEq, and_self, TV.tup.injEq, List.cons.injEq, TV.int.injEq, killT, delta, tak, ev, ad, taks, evs, nL, getH, pack, arith, callD, Nat.reduceAdd, Nat.reduceSub, Nat.reduceMul, Nat.reduceLeDiff, Nat.reduceEqDiff, Nat.reduceBEq, Nat.reduceBNe, Nat.reduceLT, Nat.reduceDiv, Int.reduceNeg, Int.reduceLT, Int.reduceLE, Int.reduceEq, Int.reduceNe, Int.reduceAdd, Int.reduceSub, Int.reduceMul, Int.reduceToNat, Int.reduceBEq, Int.reduceBNe, fillP, fillE, okE, okW, bound, elS, srcS, Fin, finish, ress, resOf, one, keeps, reduceIte, Dl.ap, Dl.slots, okD, isLp, zeros, reduceCtorEq, List.append_assoc, List.length_append, tf_slices_Clip_byte_byte, okb', List.length_map, h0, Int.le_refl, Int.toNat_natCast, h1]
theorem disk_cut {H : Heap} {j : Nat} {sl : List Slot} (hr : live H j = some (sl.flatMap Slot.cells)) {k : Nat} {s : Slot} (hk : sl[k]? = some s) (ho : OwnB s.c) (m : Int) (hm : 0 ≤ m ∧ m ≤ s.b.length) :
    CT n_disk_slot_cut [.ptr j (k * 2), .int .i64 m] H = some ⟨.tup [], H.set j ((sl.set k ⟨.sl (.own 1 false) ((s.b.take m.toNat).map tb), min s.sure m⟩).flatMap Slot.cells), false⟩ := by
  have c0 : cut (sl.flatMap Slot.cells) (k * 2) 1 = some [s.c] := cut_row (o := 0) Slot.w2 hk rfl
  have c1 : cut (sl.flatMap Slot.cells) (k * 2 + 1) 1 = some [.int .i64 s.sure] := cut_row (o := 1) Slot.w2 hk rfl
  have hbs : bs s.c = s.b := rfl
  refine callT_of rfl tab_disk_slot_cut ?_
  have okb' := okb s.b
  have hma : (s.b.map tb).take m.toNat = (s.b.take m.toNat).map tb := List.map_take.symm
  have hcl := clip_bytes (H := H) (s.b.take m.toNat)
  have hj := live_lt hr
  have hb0 := hm.1
  have hb1 := hm.2
  have hlen : k < sl.length := (List.getElem?_eq_some_iff.1 hk).1
  have hg := getD_live hr
  have sp0 : splice (sl.flatMap Slot.cells) (k * 2) [.sl (.own 1 false) ((s.b.take m.toNat).map tb)] = (sl.set k ⟨.sl (.own 1 false) ((s.b.take m.toNat).map tb), s.sure⟩).flatMap Slot.cells := splice_row (o := 0) Slot.w2 hk (Nat.le_succ 1) rfl
  have hl1 : live (H.set j ((sl.set k ⟨.sl (.own 1 false) ((s.b.take m.toNat).map tb), s.sure⟩).flatMap Slot.cells)) j = some ((sl.set k ⟨.sl (.own 1 false) ((s.b.take m.toNat).map tb), s.sure⟩).flatMap Slot.cells) := live_set_eq hj (dead_slots (by rw [List.length_set]; omega))
  have hk1 : (sl.set k ⟨.sl (.own 1 false) ((s.b.take m.toNat).map tb), s.sure⟩)[k]? = some ⟨.sl (.own 1 false) ((s.b.take m.toNat).map tb), s.sure⟩ := List.getElem?_set_self hlen
  have c2 : cut ((sl.set k ⟨.sl (.own 1 false) ((s.b.take m.toNat).map tb), s.sure⟩).flatMap Slot.cells) (k * 2 + 1) 1 = some [.int .i64 s.sure] := cut_row (o := 1) Slot.w2 hk1 rfl
  have sp1 : ∀ v, splice ((sl.set k ⟨.sl (.own 1 false) ((s.b.take m.toNat).map tb), s.sure⟩).flatMap Slot.cells) (k * 2 + 1) [.int .i64 v] = (sl.set k ⟨.sl (.own 1 false) ((s.b.take m.toNat).map tb), v⟩).flatMap Slot.cells := fun v => by
    rw [splice_row (o := 1) (a' := ⟨.sl (.own 1 false) ((s.b.take m.toNat).map tb), v⟩) Slot.w2 hk1 (by simp) rfl, List.set_set]
  have ln0 : k * 2 + 1 ≤ (sl.flatMap Slot.cells).length := by rw [row_length Slot.w2]; omega
  have ln1 : k * 2 + 1 + 1 ≤ ((sl.set k ⟨.sl (.own 1 false) ((s.b.take m.toNat).map tb), s.sure⟩).flatMap Slot.cells).length := by rw [row_length Slot.w2, List.length_set]; omega
  have hmn : (if m < s.sure then m else s.sure) = min s.sure m := by omega
  simp (maxSteps := 4000000) only [↓set16, ↓sl16, trim_set, lts_nil, trim_zero, trim_one, zz0, zz1, zz2, zz3, zz4, List.set_cons_zero, List.set_cons_succ, Bool.not_false, Bool.not_true, Bool.and_self, Bool.and_true, Bool.and_false, Bool.true_and, Bool.false_and, Bool.or_false, Bool.false_or, Bool.or_true, Bool.true_or, if_true, if_false, Bool.false_eq_true, List.getElem?_cons_zero, List.getElem?_cons_succ, List.map_cons, List.map_nil, List.headD_cons, List.all_cons, List.all_nil, List.append_nil, List.nil_append, List.cons_append, List.length_cons, List.length_nil, Nat.zero_add, Nat.add_zero, Nat.one_mul, Nat.mul_one, Nat.zero_mul, Nat.zero_le, Option.map_some, Option.map_none, List.drop_zero, List.drop_succ_cons, List.take_zero, List.take_succ_cons, List.drop_nil, List.take_nil, Option.isNone_none, Option.isSome_none, Option.isNone_some, Option.isSome_some, Option.bind_some, Option.bind_none, decide_true, decide_false, decide_eq_true_eq, decide_eq_false_iff_not, and_true, true_and, and_false, false_and, or_true, true_or, or_false, false_or, not_true_eq_false, not_false_eq_true, ne_eq, Bool.not_eq_true, Bool.not_eq_false, Bool.not_eq_eq_eq_not, eq_self, ite_self, List.replicate, Bool.and_eq_true, List.contains_nil, List.any_nil, List.any_cons, List.elem_nil, St.mk.injEq, List.foldl_cons, List.foldl_nil, flat_zeros, Bool.true_eq_false, Option.some.injEq, Ret.mk.injEq, and_self, TV.tup.injEq, List.cons.injEq, TV.int.injEq, killT, delta, tak, ev, ad, taks, evs, nL, getH, pack, arith, callD, Nat.reduceAdd, Nat.reduceSub, Nat.reduceMul, Nat.reduceLeDiff, Nat.reduceEqDiff, Nat.reduceBEq, Nat.reduceBNe, Nat.reduceLT, Nat.reduceDiv, Int.reduceNeg, Int.reduceLT, Int.reduceLE, Int.reduceEq, Int.reduceNe, Int.reduceAdd, Int.reduceSub, Int.reduceMul, Int.reduceToNat, Int.reduceBEq, Int.reduceBNe, fillP, fillE, okE, okW, bound, elS, srcS, Fin, finish, ress, resOf, one, keeps, reduceIte, Dl.ap, Dl.slots, okD, isLp, zeros, reduceCtorEq, List.append_assoc, List.length_append, tf_disk_slot_cut, hr, c0, c1, ho.shr0, hbs, okb', List.length_map, hb0, hb1, hma, hcl, hg, sp0, sp1, hl1, c2, ln0, ln1, lts_bs, getD_set hj, List.set_set]
  exact ⟨by rw [hmn], by simp [TV.lts, TV.lt]⟩
theorem disk_keeper {H : Heap} (ks : List Int) : CT n_disk_keeper [.sl .shr (ks.map (.int .i64))] H = some ⟨.fn n_disk_keeper_1 [.ptr H.length 0, .ptr (H.length + 1) 0], H ++ [[.sl .shr (ks.map (.int .i64))], [.int .i64 0]], false⟩ := by
  refine callT_of rfl tab_disk_keeper ?_
  have hl : live (H ++ [[TV.sl Tag.shr (ks.map (.int .i64))], [TV.int IntKind.i64 0]]) (H.length + 1) = some [TV.int IntKind.i64 0] := by
    have := live_app_eq (h := H ++ [[TV.sl Tag.shr (ks.map (.int .i64))]]) (x := [TV.int IntKind.i64 0]) rfl
    simpa using this
  have hno : ∀ i o, (TV.ptr i o).noOwn = true := fun _ _ => rfl
  have hst : (H ++ [[TV.sl Tag.shr (ks.map (.int .i64))], [TV.int IntKind.i64 0]]).set (H.length + 1) [TV.int IntKind.i64 0] = H ++ [[TV.sl Tag.shr (ks.map (.int .i64))], [TV.int IntKind.i64 0]] := by
    rw [List.set_append_right _ _ (by omega)]; simp
  have hlt : TV.lts (H.length + 1 + 1) [TV.int IntKind.i64 0] = true := by simp [TV.lts, TV.lt]
  simp (maxSteps := 4000000) only [↓set16, ↓sl16, trim_set, lts_nil, trim_zero, trim_one, zz0, zz1, zz2, zz3, zz4, List.set_cons_zero, List.set_cons_succ, Bool.not_false, Bool.not_true, Bool.and_self, Bool.and_true, Bool.and_false, Bool.true_and, Bool.false_and, Bool.or_false, Bool.false_or, Bool.or_true, Bool.true_or, if_true, if_false, Bool.false_eq_true, List.getElem?_cons_zero, List.getElem?_cons_succ, List.map_cons, List.map_nil, List.headD_cons, List.all_cons, List.all_nil, List.append_nil, List.nil_append, List.cons_append, List.length_cons, List.length_nil, Nat.zero_add, Nat.add_zero, Nat.one_mul, Nat.mul_one, Nat.zero_mul, Nat.zero_le, Option.map_some, Option.map_none, List.drop_zero, List.drop_succ_cons, List.take_zero, List.take_succ_cons, List.drop_nil, List.take_nil, Option.isNone_none, Option.isSome_none, Option.isNone_some, Option.isSome_some, Option.bind_some, Option.bind_none, decide_true, decide_false, decide_eq_true_eq, decide_eq_false_iff_not, and_true, true_and, and_false, false_and, or_true, true_or, or_false, false_or, not_true_eq_false, not_false_eq_true, ne_eq, Bool.not_eq_true, Bool.not_eq_false, Bool.not_eq_eq_eq_not, eq_self, ite_self, List.replicate, Bool.and_eq_true, List.contains_nil, List.any_nil, List.any_cons, List.elem_nil, St.mk.injEq, List.foldl_cons, List.foldl_nil, flat_zeros, Bool.true_eq_false, Option.some.injEq, Ret.mk.injEq, and_self, TV.tup.injEq, List.cons.injEq, TV.int.injEq, killT, delta, tak, ev, ad, taks, evs, nL, getH, pack, arith, callD, Nat.reduceAdd, Nat.reduceSub, Nat.reduceMul, Nat.reduceLeDiff, Nat.reduceEqDiff, Nat.reduceBEq, Nat.reduceBNe, Nat.reduceLT, Nat.reduceDiv, Int.reduceNeg, Int.reduceLT, Int.reduceLE, Int.reduceEq, Int.reduceNe, Int.reduceAdd, Int.reduceSub, Int.reduceMul, Int.reduceToNat, Int.reduceBEq, Int.reduceBNe, fillP, fillE, okE, okW, bound, elS, srcS, Fin, finish, ress, resOf, one, keeps, reduceIte, Dl.ap, Dl.slots, okD, isLp, zeros, reduceCtorEq, List.append_assoc, List.length_append, tf_disk_keeper, hl, hno, hst, hlt]
  exact trim_out (by simp [rowT, rowA, rowC]) (by simp [TV.lt, TV.lts])
/-- How many bytes the keeper lets stay. -/
def keepN (ks : List Int) (next : Int) (loose : Int) : Int := if ks.length = 0 then 0 else min (max (ks.getD (next.tmod ks.length).toNat 0) 0) loose
theorem disk_keeper_1 {H : Heap} {i j : Nat} (ks : List Int) (next : Int) (loose : Int) (hi : live H i = some [.sl .shr (ks.map (.int .i64))]) (hj : live H j = some [.int .i64 next]) (hij : i ≠ j) (hn : 0 ≤ next ∧ next ≤ 1000) (hk : ks.length ≤ 9223372036854775807) (hl : 0 ≤ loose) :
    CT n_disk_keeper_1 [.int .i64 loose, .ptr i 0, .ptr j 0] H = some ⟨.int .i64 (keepN ks next loose), if ks.length = 0 then H else H.set j [.int .i64 (next + 1)], false⟩ := by
  by_cases h0 : ks.length = 0
  · have hk0 : keepN ks next loose = 0 := if_pos h0
    rw [hk0, if_pos h0]
    refine callT_of rfl tab_disk_keeper_1 ?_
    have hz : (((0 : Nat) : Int) == 0) = true := rfl
    simp (maxSteps := 4000000) only [↓set16, ↓sl16, trim_set, lts_nil, trim_zero, trim_one, zz0, zz1, zz2, zz3, zz4, List.set_cons_zero, List.set_cons_succ, Bool.not_false, Bool.not_true, Bool.and_self, Bool.and_true, Bool.and_false, Bool.true_and, Bool.false_and, Bool.or_false, Bool.false_or, Bool.or_true, Bool.true_or, if_true, if_false, Bool.false_eq_true, List.getElem?_cons_zero, List.getElem?_cons_succ, List.map_cons, List.map_nil, List.headD_cons, List.all_cons, List.all_nil, List.append_nil, List.nil_append, List.cons_append, List.length_cons, List.length_nil, Nat.zero_add, Nat.add_zero, Nat.one_mul, Nat.mul_one, Nat.zero_mul, Nat.zero_le, Option.map_some, Option.map_none, List.drop_zero, List.drop_succ_cons, List.take_zero, List.take_succ_cons, List.drop_nil, List.take_nil, Option.isNone_none, Option.isSome_none, Option.isNone_some, Option.isSome_some, Option.bind_some, Option.bind_none, decide_true, decide_false, decide_eq_true_eq, decide_eq_false_iff_not, and_true, true_and, and_false, false_and, or_true, true_or, or_false, false_or, not_true_eq_false, not_false_eq_true, ne_eq, Bool.not_eq_true, Bool.not_eq_false, Bool.not_eq_eq_eq_not, eq_self, ite_self, List.replicate, Bool.and_eq_true, List.contains_nil, List.any_nil, List.any_cons, List.elem_nil, St.mk.injEq, List.foldl_cons, List.foldl_nil, flat_zeros, Bool.true_eq_false, Option.some.injEq, Ret.mk.injEq, and_self, TV.tup.injEq, List.cons.injEq, TV.int.injEq, killT, delta, tak, ev, ad, taks, evs, nL, getH, pack, arith, callD, Nat.reduceAdd, Nat.reduceSub, Nat.reduceMul, Nat.reduceLeDiff, Nat.reduceEqDiff, Nat.reduceBEq, Nat.reduceBNe, Nat.reduceLT, Nat.reduceDiv, Int.reduceNeg, Int.reduceLT, Int.reduceLE, Int.reduceEq, Int.reduceNe, Int.reduceAdd, Int.reduceSub, Int.reduceMul, Int.reduceToNat, Int.reduceBEq, Int.reduceBNe, fillP, fillE, okE, okW, bound, elS, srcS, Fin, finish, ress, resOf, one, keeps, reduceIte, Dl.ap, Dl.slots, okD, isLp, zeros, reduceCtorEq, List.append_assoc, List.length_append, tf_disk_keeper_1, hi, hj, List.length_map, h0, hz]
  · have hk0 : keepN ks next loose = min (max (ks.getD (next.tmod ks.length).toNat 0) 0) loose := if_neg h0
    rw [hk0, if_neg h0]
    have hz : ((ks.length : Int) == 0) = false := by rw [beq_eq_false_iff_ne]; omega
    have hnz : ¬ (ks.length : Int) = 0 := by omega
    have hr : next.tmod ks.length = next % ks.length := Int.tmod_eq_emod_of_nonneg hn.1
    have hr0 : 0 ≤ next.tmod ks.length := by rw [hr]; exact Int.emod_nonneg _ hnz
    have hr1 : next.tmod ks.length < ks.length := by rw [hr]; exact Int.emod_lt_of_pos _ (by omega)
    have hg : (ks.map (TV.int .i64))[(next.tmod ks.length).toNat]? = some (.int .i64 (ks.getD (next.tmod ks.length).toNat 0)) := by
      rw [List.getElem?_map, List.getD_eq_getElem?_getD, List.getElem?_eq_getElem (by omega)]; rfl
    generalize ks.getD (next.tmod ks.length).toNat 0 = v at hg ⊢
    have hw : IntKind.i64.wrap (next + 1) = next + 1 := IntWalk.i64_in _ (by omega)
    have hlt : ∀ z, TV.lts (j + 1) [TV.int IntKind.i64 z] = true := fun z => by simp [TV.lts, TV.lt]
    refine callT_of rfl tab_disk_keeper_1 ?_
    simp (maxSteps := 4000000) only [↓set16, ↓sl16, trim_set, lts_nil, trim_zero, trim_one, zz0, zz1, zz2, zz3, zz4, List.set_cons_zero, List.set_cons_succ, Bool.not_false, Bool.not_true, Bool.and_self, Bool.and_true, Bool.and_false, Bool.true_and, Bool.false_and, Bool.or_false, Bool.false_or, Bool.or_true, Bool.true_or, if_true, if_false, Bool.false_eq_true, List.getElem?_cons_zero, List.getElem?_cons_succ, List.map_cons, List.map_nil, List.headD_cons, List.all_cons, List.all_nil, List.append_nil, List.nil_append, List.cons_append, List.length_cons, List.length_nil, Nat.zero_add, Nat.add_zero, Nat.one_mul, Nat.mul_one, Nat.zero_mul, Nat.zero_le, Option.map_some, Option.map_none, List.drop_zero, List.drop_succ_cons, List.take_zero, List.take_succ_cons, List.drop_nil, List.take_nil, Option.isNone_none, Option.isSome_none, Option.isNone_some, Option.isSome_some, Option.bind_some, Option.bind_none, decide_true, decide_false, decide_eq_true_eq, decide_eq_false_iff_not, and_true, true_and, and_false, false_and, or_true, true_or, or_false, false_or, not_true_eq_false, not_false_eq_true, ne_eq, Bool.not_eq_true, Bool.not_eq_false, Bool.not_eq_eq_eq_not, eq_self, ite_self, List.replicate, Bool.and_eq_true, List.contains_nil, List.any_nil, List.any_cons, List.elem_nil, St.mk.injEq, List.foldl_cons, List.foldl_nil, flat_zeros, Bool.true_eq_false, Option.some.injEq, Ret.mk.injEq, and_self, TV.tup.injEq, List.cons.injEq, TV.int.injEq, killT, delta, tak, ev, ad, taks, evs, nL, getH, pack, arith, callD, Nat.reduceAdd, Nat.reduceSub, Nat.reduceMul, Nat.reduceLeDiff, Nat.reduceEqDiff, Nat.reduceBEq, Nat.reduceBNe, Nat.reduceLT, Nat.reduceDiv, Int.reduceNeg, Int.reduceLT, Int.reduceLE, Int.reduceEq, Int.reduceNe, Int.reduceAdd, Int.reduceSub, Int.reduceMul, Int.reduceToNat, Int.reduceBEq, Int.reduceBNe, fillP, fillE, okE, okW, bound, elS, srcS, Fin, finish, ress, resOf, one, keeps, reduceIte, Dl.ap, Dl.slots, okD, isLp, zeros, reduceCtorEq, List.append_assoc, List.length_append, tf_disk_keeper_1, hi, hj, List.length_map, h0, hz, hnz, hr0, hg, hw, hlt, getD_live hj, splice_cons_zero]
    repeat' split
    all_goals omega
end Go.T
