/- What the disk's functions answer, on: Crash. -/
import Derived.Test.YtlcnhdbedgpbiaaOdisk4
set_option linter.unusedVariables false
set_option linter.unusedSimpArgs false
set_option maxRecDepth 10000
set_option maxHeartbeats 400000
namespace Go.T
attribute [local irreducible] Run Back RS Ap
/-- A slot behind a crash, and how many were asked for. -/
def crashOne (ks : List Int) (next : Int) (s : Slot) : Slot × Int :=
  if (s.b.length : Int) - s.sure = 0 then (s, next)
  else (⟨.sl (.own 1 false) ((s.b.take (s.sure + keepN ks next (s.b.length - s.sure)).toNat).map tb), s.sure + keepN ks next (s.b.length - s.sure)⟩, if ks.length = 0 then next else next + 1)
def crash (ks : List Int) : Int → List Slot → List Slot
  | _, [] => []
  | next, s :: l => (crashOne ks next s).1 :: crash ks (crashOne ks next s).2 l
/-- The disk's heap while it crashes. -/
def crH (H : Heap) (j : Nat) (ks : List Int) (sl : List Slot) (next : Int) : Heap := H.set j (sl.flatMap Slot.cells) ++ [[.sl .shr (ks.map (.int .i64))], [.int .i64 next]]
theorem crH_live {H : Heap} {j : Nat} {ks : List Int} {sl : List Slot} {next : Int} (hj : j < H.length) (h1 : 1 ≤ sl.length) : live (crH H j ks sl next) j = some (sl.flatMap Slot.cells) := by
  have := live_set_eq hj (dead_slots h1)
  unfold live crH at *
  rw [List.getElem?_append_left (by simpa using hj)]
  exact this
theorem crH_ks {H : Heap} {j : Nat} {ks : List Int} {sl : List Slot} {next : Int} : live (crH H j ks sl next) H.length = some [.sl .shr (ks.map (.int .i64))] := by
  unfold live crH
  rw [List.getElem?_append_right (by simp)]
  simp [dead]
theorem crH_next {H : Heap} {j : Nat} {ks : List Int} {sl : List Slot} {next : Int} : live (crH H j ks sl next) (H.length + 1) = some [.int .i64 next] := by
  unfold live crH
  rw [List.getElem?_append_right (by simp)]
  simp [dead]
theorem crH_set {H : Heap} {j : Nat} {ks : List Int} {sl sl' : List Slot} {next : Int} (hj : j < H.length) : (crH H j ks sl next).set j (sl'.flatMap Slot.cells) = crH H j ks sl' next := by
  unfold crH
  rw [List.set_append_left _ _ (by simpa using hj), List.set_set]
theorem crH_set_next {H : Heap} {j : Nat} {ks : List Int} {sl : List Slot} {next next' : Int} : (crH H j ks sl next).set (H.length + 1) [.int .i64 next'] = crH H j ks sl next' := by
  unfold crH
  rw [List.set_append_right _ _ (by simp)]
  simp
theorem crH_length {H : Heap} {j : Nat} {ks : List Int} {sl : List Slot} {next : Int} : (crH H j ks sl next).length = H.length + 2 := by simp [crH]
theorem crH_getD {H : Heap} {j : Nat} {ks : List Int} {sl : List Slot} {next : Int} (hj : j < H.length) : (crH H j ks sl next).getD j [] = sl.flatMap Slot.cells := by
  unfold crH
  rw [List.getD_eq_getElem?_getD, List.getElem?_append_left (by simpa using hj), List.getElem?_set_self hj]; rfl
theorem set_mid {α : Type} (pre : List α) (a b : α) (l : List α) : (pre ++ a :: l).set pre.length b = pre ++ b :: l := by
  rw [List.set_append_right _ _ (Nat.le_refl _)]; simp
theorem crH_trim {H : Heap} {j : Nat} {ks : List Int} {sl : List Slot} {next : Int} : trim true H.length ⟨.tup [], crH H j ks sl next, false⟩ = ⟨.tup [], H.set j (sl.flatMap Slot.cells), false⟩ := by
  have := trim_in (fz := true) (v := .tup []) (h := H.set j (sl.flatMap Slot.cells)) (x := [[.sl .shr (ks.map (.int .i64))], [.int .i64 next]]) (by simp [rowT]) (by simp [TV.lt, TV.lts])
  rw [List.length_set] at this
  exact this
theorem DiskAt.app {H : Heap} {i j : Nat} {sl : List Slot} {room : Int} (hd : DiskAt H i j sl room) (X : Heap) : DiskAt (H ++ X) i j sl room where
  box := by have := hd.box; have hi := live_lt this; unfold live at *; rw [List.getElem?_append_left hi]; exact this
  row := by have := hd.row; have hi := live_lt this; unfold live at *; rw [List.getElem?_append_left hi]; exact this
  ok := hd.ok
  ne := hd.ne
theorem crash_loop {H : Heap} {j : Nat} {ks : List Int} {N : Nat} (hj : j < H.length) (h16 : N ≤ 16) (hks : ks.length ≤ 9223372036854775807) (rest : List Slot) : ∀ (pre : List Slot) (next : Int), pre.length + rest.length = N → 0 ≤ next → next ≤ pre.length → (∀ s ∈ rest, OwnB s.c ∧ Fine s) →
    Run ⟨CT, true, [], ⟨.tup [], H.set j ((pre ++ crash ks next rest).flatMap Slot.cells), false⟩⟩ [Fr.blk 0] (.loop lp_disk_Disk_Crash_1)
      ⟨(TV.junk :: TV.junk :: TV.tup [] :: TV.tup [] :: .fn n_disk_keeper_1 [.ptr H.length 0, .ptr (H.length + 1) 0] :: TV.tup [] :: TV.junk :: TV.junk :: TV.junk :: TV.junk :: TV.junk :: .sl .shr (allP j N) :: .int .i64 N :: .int .i64 pre.length :: TV.junk :: TV.junk :: TV.junk :: TV.junk :: TV.junk :: TV.junk :: TV.junk :: TV.junk :: TV.junk :: TV.junk :: TV.junk :: TV.junk :: TV.junk :: TV.junk :: TV.junk :: TV.junk :: TV.junk :: TV.junk :: TV.junk :: TV.junk :: TV.junk :: TV.junk :: TV.junk :: TV.junk :: TV.junk :: TV.junk :: []), crH H j ks (pre ++ rest) next, H.length, false⟩ := by
  induction rest with
  | nil =>
    intro pre next hp h0 h1 hf
    simp only [List.length_nil, Nat.add_zero] at hp
    subst hp
    rw [Run_loop]
    have hq : ¬ (pre.length : Int) < pre.length := by omega
    simp only [crash, List.append_nil]
    simp (maxSteps := 4000000) only [↓set16, ↓sl16, trim_set, lts_nil, trim_zero, trim_one, zz0, zz1, zz2, zz3, zz4, List.set_cons_zero, List.set_cons_succ, Bool.not_false, Bool.not_true, Bool.and_self, Bool.and_true, Bool.and_false, Bool.true_and, Bool.false_and, Bool.or_false, Bool.false_or, Bool.or_true, Bool.true_or, if_true, if_false, Bool.false_eq_true, List.getElem?_cons_zero, List.getElem?_cons_succ, List.map_cons, List.map_nil, List.headD_cons, List.all_cons, List.all_nil, List.append_nil, List.nil_append, List.cons_append, List.length_cons, List.length_nil, Nat.zero_add, Nat.add_zero, Nat.one_mul, Nat.mul_one, Nat.zero_mul, Nat.zero_le, Option.map_some, Option.map_none, List.drop_zero, List.drop_succ_cons, List.take_zero, List.take_succ_cons, List.drop_nil, List.take_nil, Option.isNone_none, Option.isSome_none, Option.isNone_some, Option.isSome_some, Option.bind_some, Option.bind_none, decide_true, decide_false, decide_eq_true_eq, decide_eq_false_iff_not, and_true, true_and, and_false, false_and, or_true, true_or, or_false, false_or, not_true_eq_false, not_false_eq_true, ne_eq, Bool.not_eq_true, Bool.not_eq_false, Bool.not_eq_eq_eq_not, eq_self, ite_self, List.replicate, Bool.and_eq_true, List.contains_nil, List.any_nil, List.any_cons, List.elem_nil, St.mk.injEq, List.foldl_cons, List.foldl_nil, flat_zeros, Bool.true_eq_false, Option.some.injEq, Ret.mk.injEq, and_self, TV.tup.injEq, List.cons.injEq, TV.int.injEq, killT, delta, tak, ev, ad, taks, evs, nL, getH, pack, arith, callD, Nat.reduceAdd, Nat.reduceSub, Nat.reduceMul, Nat.reduceLeDiff, Nat.reduceEqDiff, Nat.reduceBEq, Nat.reduceBNe, Nat.reduceLT, Nat.reduceDiv, Int.reduceNeg, Int.reduceLT, Int.reduceLE, Int.reduceEq, Int.reduceNe, Int.reduceAdd, Int.reduceSub, Int.reduceMul, Int.reduceToNat, Int.reduceBEq, Int.reduceBNe, fillP, fillE, okE, okW, bound, elS, srcS, Fin, finish, ress, resOf, one, keeps, reduceIte, Dl.ap, Dl.slots, okD, isLp, zeros, reduceCtorEq, List.append_assoc, List.length_append, lp_disk_Disk_Crash_1, hq]
    exact crH_trim
  | cons s rest ih =>
    intro pre next hp h0 h1 hf
    simp only [List.length_cons] at hp
    have hk' : (pre.length : Int) < N := by omega
    have hk0 : (0 : Int) ≤ pre.length := by omega
    have hk2 : pre.length < N := by omega
    have hw1 : IntKind.i64.wrap ((pre.length : Int) + 1) = ((pre.length + 1 : Nat) : Int) := IntWalk.i64_in _ (by omega)
    obtain ⟨ho, hfs⟩ := hf s (by simp)
    have hs : (pre ++ s :: rest)[pre.length]? = some s := by simp
    have hlv : live (crH H j ks (pre ++ s :: rest) next) j = some ((pre ++ s :: rest).flatMap Slot.cells) := crH_live hj (by simp; omega)
    have hlo := disk_slot_loose hlv hs ho.shr0
    rw [List.length_map, show (bs s.c).length = s.b.length from rfl] at hlo
    have hw2 : IntKind.i64.wrap ((s.b.length : Int) - s.sure) = s.b.length - s.sure := IntWalk.i64_in _ (by unfold Fine at hfs; omega)
    rw [hw2] at hlo
    by_cases hz : (s.b.length : Int) - s.sure = 0
    · have hc : crash ks next (s :: rest) = s :: crash ks next rest := by simp [crash, crashOne, hz]
      rw [hc]
      have hgo := ih (pre ++ [s]) next (by simp; omega) h0 (by simp; omega) (fun x hx => hf x (by simp [hx]))
      simp only [List.append_assoc, List.cons_append, List.nil_append, List.length_append, List.length_cons, List.length_nil, Nat.zero_add] at hgo
      have hq : (((s.b.length : Int) - s.sure) == 0) = true := by rw [beq_iff_eq]; exact hz
      rw [Run_loop]
      simp (maxSteps := 4000000) only [↓set16, ↓sl16, trim_set, lts_nil, trim_zero, trim_one, zz0, zz1, zz2, zz3, zz4, List.set_cons_zero, List.set_cons_succ, Bool.not_false, Bool.not_true, Bool.and_self, Bool.and_true, Bool.and_false, Bool.true_and, Bool.false_and, Bool.or_false, Bool.false_or, Bool.or_true, Bool.true_or, if_true, if_false, Bool.false_eq_true, List.getElem?_cons_zero, List.getElem?_cons_succ, List.map_cons, List.map_nil, List.headD_cons, List.all_cons, List.all_nil, List.append_nil, List.nil_append, List.cons_append, List.length_cons, List.length_nil, Nat.zero_add, Nat.add_zero, Nat.one_mul, Nat.mul_one, Nat.zero_mul, Nat.zero_le, Option.map_some, Option.map_none, List.drop_zero, List.drop_succ_cons, List.take_zero, List.take_succ_cons, List.drop_nil, List.take_nil, Option.isNone_none, Option.isSome_none, Option.isNone_some, Option.isSome_some, Option.bind_some, Option.bind_none, decide_true, decide_false, decide_eq_true_eq, decide_eq_false_iff_not, and_true, true_and, and_false, false_and, or_true, true_or, or_false, false_or, not_true_eq_false, not_false_eq_true, ne_eq, Bool.not_eq_true, Bool.not_eq_false, Bool.not_eq_eq_eq_not, eq_self, ite_self, List.replicate, Bool.and_eq_true, List.contains_nil, List.any_nil, List.any_cons, List.elem_nil, St.mk.injEq, List.foldl_cons, List.foldl_nil, flat_zeros, Bool.true_eq_false, Option.some.injEq, Ret.mk.injEq, and_self, TV.tup.injEq, List.cons.injEq, TV.int.injEq, killT, delta, tak, ev, ad, taks, evs, nL, getH, pack, arith, callD, Nat.reduceAdd, Nat.reduceSub, Nat.reduceMul, Nat.reduceLeDiff, Nat.reduceEqDiff, Nat.reduceBEq, Nat.reduceBNe, Nat.reduceLT, Nat.reduceDiv, Int.reduceNeg, Int.reduceLT, Int.reduceLE, Int.reduceEq, Int.reduceNe, Int.reduceAdd, Int.reduceSub, Int.reduceMul, Int.reduceToNat, Int.reduceBEq, Int.reduceBNe, fillP, fillE, okE, okW, bound, elS, srcS, Fin, finish, ress, resOf, one, keeps, reduceIte, Dl.ap, Dl.slots, okD, isLp, zeros, reduceCtorEq, List.append_assoc, List.length_append, lp_disk_Disk_Crash_1, hk', hk0, allP_get hk2, Int.toNat_natCast, hlo, hq, hw1]
      exact hgo
    · have hq : (((s.b.length : Int) - s.sure) == 0) = false := by rw [beq_eq_false_iff_ne]; exact hz
      have hl0 : 0 ≤ (s.b.length : Int) - s.sure := by unfold Fine at hfs; omega
      have hkp := disk_keeper_1 (H := crH H j ks (pre ++ s :: rest) next) ks next _ crH_ks crH_next (by omega) ⟨h0, by omega⟩ hks hl0
      have c0 : cut ((pre ++ s :: rest).flatMap Slot.cells) (pre.length * 2) 1 = some [s.c] := cut_row (o := 0) Slot.w2 hs rfl
      have c1 : cut ((pre ++ s :: rest).flatMap Slot.cells) (pre.length * 2 + 1) 1 = some [.int .i64 s.sure] := cut_row (o := 1) Slot.w2 hs rfl
      obtain ⟨n', hn'⟩ : ∃ n', n' = if ks.length = 0 then next else next + 1 := ⟨_, rfl⟩
      have hh : (if ks.length = 0 then crH H j ks (pre ++ s :: rest) next else (crH H j ks (pre ++ s :: rest) next).set (H.length + 1) [TV.int IntKind.i64 (next + 1)]) = crH H j ks (pre ++ s :: rest) n' := by
        rw [hn']; split
        · rfl
        · exact crH_set_next
      rw [hh] at hkp
      obtain ⟨kp, hkpe⟩ : ∃ kp, kp = keepN ks next (s.b.length - s.sure) := ⟨_, rfl⟩
      rw [← hkpe] at hkp
      have hkb : 0 ≤ kp ∧ kp ≤ (s.b.length : Int) - s.sure := by
        rw [hkpe]; unfold keepN; split <;> omega
      have hj2 : j < H.length + 2 := by omega
      have hlv' : live (crH H j ks (pre ++ s :: rest) n') j = some ((pre ++ s :: rest).flatMap Slot.cells) := crH_live hj (by simp; omega)
      have hfs' := hfs
      unfold Fine at hfs'
      have hw3 : IntKind.i64.wrap (s.sure + kp) = s.sure + kp := IntWalk.i64_in _ (by omega)
      have hcut := disk_cut hlv' hs ho (s.sure + kp) (by omega)
      rw [set_mid, crH_set hj] at hcut
      have hmin : min s.sure (s.sure + kp) = s.sure := by omega
      rw [hmin] at hcut
      have hlen : ((s.b.take (s.sure + kp).toNat).length : Int) = s.sure + kp := by rw [List.length_take]; omega
      obtain ⟨b', hb'⟩ : ∃ b', b' = s.b.take (s.sure + kp).toNat := ⟨_, rfl⟩
      rw [← hb'] at hcut hlen
      have hlv2 : live (crH H j ks (pre ++ ⟨.sl (.own 1 false) (b'.map tb), s.sure⟩ :: rest) n') j = some ((pre ++ ⟨.sl (.own 1 false) (b'.map tb), s.sure⟩ :: rest).flatMap Slot.cells) := crH_live hj (by simp; omega)
      have hs2 : (pre ++ ⟨.sl (.own 1 false) (b'.map tb), s.sure⟩ :: rest)[pre.length]? = some ⟨.sl (.own 1 false) (b'.map tb), s.sure⟩ := by simp
      have c2 : cut ((pre ++ ⟨.sl (.own 1 false) (b'.map tb), s.sure⟩ :: rest).flatMap Slot.cells) (pre.length * 2) 1 = some [.sl (.own 1 false) (b'.map tb)] := cut_row (o := 0) Slot.w2 hs2 rfl
      have sp2 : splice ((pre ++ ⟨.sl (.own 1 false) (b'.map tb), s.sure⟩ :: rest).flatMap Slot.cells) (pre.length * 2 + 1) [.int .i64 (s.sure + kp)] = (pre ++ ⟨.sl (.own 1 false) (b'.map tb), s.sure + kp⟩ :: rest).flatMap Slot.cells := by
        rw [splice_row (o := 1) (a' := ⟨.sl (.own 1 false) (b'.map tb), s.sure + kp⟩) Slot.w2 hs2 (by simp) rfl, set_mid]
      have ln2 : pre.length * 2 + 1 + 1 ≤ ((pre ++ ⟨.sl (.own 1 false) (b'.map tb), s.sure⟩ :: rest).flatMap Slot.cells).length := by rw [row_length Slot.w2]; simp; omega
      have hlt : TV.lts (j + 1) [TV.int IntKind.i64 (s.sure + kp)] = true := by simp [TV.lts, TV.lt]
      have hc : crash ks next (s :: rest) = ⟨.sl (.own 1 false) (b'.map tb), s.sure + kp⟩ :: crash ks n' rest := by
        simp only [crash, crashOne, if_neg hz, ← hkpe, ← hb', ← hn']
      rw [hc]
      have hgo := ih (pre ++ [⟨.sl (.own 1 false) (b'.map tb), s.sure + kp⟩]) n' (by simp; omega) (by rw [hn']; split <;> omega) (by rw [hn']; simp; split <;> omega) (fun x hx => hf x (by simp [hx]))
      simp only [List.append_assoc, List.cons_append, List.nil_append, List.length_append, List.length_cons, List.length_nil, Nat.zero_add] at hgo
      rw [Run_loop]
      simp (maxSteps := 4000000) only [↓set16, ↓sl16, trim_set, lts_nil, trim_zero, trim_one, zz0, zz1, zz2, zz3, zz4, List.set_cons_zero, List.set_cons_succ, Bool.not_false, Bool.not_true, Bool.and_self, Bool.and_true, Bool.and_false, Bool.true_and, Bool.false_and, Bool.or_false, Bool.false_or, Bool.or_true, Bool.true_or, if_true, if_false, Bool.false_eq_true, List.getElem?_cons_zero, List.getElem?_cons_succ, List.map_cons, List.map_nil, List.headD_cons, List.all_cons, List.all_nil, List.append_nil, List.nil_append, List.cons_append, List.length_cons, List.length_nil, Nat.zero_add, Nat.add_zero, Nat.one_mul, Nat.mul_one, Nat.zero_mul, Nat.zero_le, Option.map_some, Option.map_none, List.drop_zero, List.drop_succ_cons, List.take_zero, List.take_succ_cons, List.drop_nil, List.take_nil, Option.isNone_none, Option.isSome_none, Option.isNone_some, Option.isSome_some, Option.bind_some, Option.bind_none, decide_true, decide_false, decide_eq_true_eq, decide_eq_false_iff_not, and_true, true_and, and_false, false_and, or_true, true_or, or_false, false_or, not_true_eq_false, not_false_eq_true, ne_eq, Bool.not_eq_true, Bool.not_eq_false, Bool.not_eq_eq_eq_not, eq_self, ite_self, List.replicate, Bool.and_eq_true, List.contains_nil, List.any_nil, List.any_cons, List.elem_nil, St.mk.injEq, List.foldl_cons, List.foldl_nil, flat_zeros, Bool.true_eq_false, Option.some.injEq, Ret.mk.injEq, and_self, TV.tup.injEq, List.cons.injEq, TV.int.injEq, killT, delta, tak, ev, ad, taks, evs, nL, getH, pack, arith, callD, Nat.reduceAdd, Nat.reduceSub, Nat.reduceMul, Nat.reduceLeDiff, Nat.reduceEqDiff, Nat.reduceBEq, Nat.reduceBNe, Nat.reduceLT, Nat.reduceDiv, Int.reduceNeg, Int.reduceLT, Int.reduceLE, Int.reduceEq, Int.reduceNe, Int.reduceAdd, Int.reduceSub, Int.reduceMul, Int.reduceToNat, Int.reduceBEq, Int.reduceBNe, fillP, fillE, okE, okW, bound, elS, srcS, Fin, finish, ress, resOf, one, keeps, reduceIte, Dl.ap, Dl.slots, okD, isLp, zeros, reduceCtorEq, List.append_assoc, List.length_append, lp_disk_Disk_Crash_1, hk', hk0, allP_get hk2, Int.toNat_natCast, hlo, hq, hw1, hlv, hlv', c0, c1, hkp, keptB, crH_length, TV.beqs_refl, hj2, hw3, hcut, hlv2, c2, List.length_map, hlen, ln2, sp2, hlt, crH_getD hj, crH_set hj]
      exact hgo
theorem disk_Crash {H : Heap} {i j : Nat} {sl : List Slot} {room : Int} (hd : DiskAt H i j sl room) (h16 : sl.length ≤ 16) (h1 : 1 ≤ sl.length) (hf : ∀ s ∈ sl, Fine s) (ks : List Int) (hks : ks.length ≤ 9223372036854775807) : CT n_disk_Disk_Crash [.ptr i 0, .sl .shr (ks.map (.int .i64))] H = some ⟨.tup [], H.set j ((crash ks 0 sl).flatMap Slot.cells), false⟩ := by
  have hl := crash_loop (live_lt hd.row) h16 hks sl [] 0 (by simp) (by omega) (by simp) (fun s hs => ⟨hd.ok s hs, hf s hs⟩)
  simp only [List.nil_append] at hl
  refine callT_of rfl tab_disk_Disk_Crash ?_
  have hall := disk_all (hd.app [[.sl .shr (ks.map (.int .i64))], [.int .i64 0]]) h16 h1
  simp (maxSteps := 4000000) only [↓set16, ↓sl16, trim_set, lts_nil, trim_zero, trim_one, zz0, zz1, zz2, zz3, zz4, List.set_cons_zero, List.set_cons_succ, Bool.not_false, Bool.not_true, Bool.and_self, Bool.and_true, Bool.and_false, Bool.true_and, Bool.false_and, Bool.or_false, Bool.false_or, Bool.or_true, Bool.true_or, if_true, if_false, Bool.false_eq_true, List.getElem?_cons_zero, List.getElem?_cons_succ, List.map_cons, List.map_nil, List.headD_cons, List.all_cons, List.all_nil, List.append_nil, List.nil_append, List.cons_append, List.length_cons, List.length_nil, Nat.zero_add, Nat.add_zero, Nat.one_mul, Nat.mul_one, Nat.zero_mul, Nat.zero_le, Option.map_some, Option.map_none, List.drop_zero, List.drop_succ_cons, List.take_zero, List.take_succ_cons, List.drop_nil, List.take_nil, Option.isNone_none, Option.isSome_none, Option.isNone_some, Option.isSome_some, Option.bind_some, Option.bind_none, decide_true, decide_false, decide_eq_true_eq, decide_eq_false_iff_not, and_true, true_and, and_false, false_and, or_true, true_or, or_false, false_or, not_true_eq_false, not_false_eq_true, ne_eq, Bool.not_eq_true, Bool.not_eq_false, Bool.not_eq_eq_eq_not, eq_self, ite_self, List.replicate, Bool.and_eq_true, List.contains_nil, List.any_nil, List.any_cons, List.elem_nil, St.mk.injEq, List.foldl_cons, List.foldl_nil, flat_zeros, Bool.true_eq_false, Option.some.injEq, Ret.mk.injEq, and_self, TV.tup.injEq, List.cons.injEq, TV.int.injEq, killT, delta, tak, ev, ad, taks, evs, nL, getH, pack, arith, callD, Nat.reduceAdd, Nat.reduceSub, Nat.reduceMul, Nat.reduceLeDiff, Nat.reduceEqDiff, Nat.reduceBEq, Nat.reduceBNe, Nat.reduceLT, Nat.reduceDiv, Int.reduceNeg, Int.reduceLT, Int.reduceLE, Int.reduceEq, Int.reduceNe, Int.reduceAdd, Int.reduceSub, Int.reduceMul, Int.reduceToNat, Int.reduceBEq, Int.reduceBNe, fillP, fillE, okE, okW, bound, elS, srcS, Fin, finish, ress, resOf, one, keeps, reduceIte, Dl.ap, Dl.slots, okD, isLp, zeros, reduceCtorEq, List.append_assoc, List.length_append, tf_disk_Disk_Crash, disk_keeper, hall, allP_length]
  have he : crH H j ks sl 0 = H ++ [[.sl .shr (ks.map (.int .i64))], [.int .i64 0]] := by unfold crH; rw [set_same hd.row]
  rw [he] at hl
  exact hl
end Go.T
