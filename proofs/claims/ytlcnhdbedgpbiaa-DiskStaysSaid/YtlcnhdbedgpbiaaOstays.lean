/- DiskStays: what the law answers. -/
import Derived.Test.YtlcnhdbedgpbiaaOdisk5
set_option linter.unusedVariables false
set_option linter.unusedSimpArgs false
set_option maxRecDepth 10000
set_option maxHeartbeats 1000000
namespace Go.T
attribute [local irreducible] Run Back RS Ap
theorem looseOf_set {sl : List Slot} {k : Nat} {s s' : Slot} (h : sl[k]? = some s) : looseOf (sl.set k s') = looseOf sl - ((s.b.length : Int) - s.sure) + (s'.b.length - s'.sure) := by
  induction sl generalizing k with
  | nil => simp at h
  | cons a l ih =>
    cases k with
    | zero =>
      simp at h; subst h
      simp only [looseOf, List.set_cons_zero, List.map_cons, List.sum_cons]; omega
    | succ k =>
      have := ih (k := k) (by simpa using h)
      simp only [looseOf, List.set_cons_succ, List.map_cons, List.sum_cons] at this ⊢; omega
theorem looseOf_zero {sl : List Slot} (h : ∀ s ∈ sl, (s.b.length : Int) = s.sure) : looseOf sl = 0 := by
  induction sl with
  | nil => rfl
  | cons a l ih =>
    have h1 := h a (by simp)
    have h2 := ih fun s hs => h s (by simp [hs])
    simp only [looseOf, List.map_cons, List.sum_cons] at h2 ⊢; omega
theorem crash_length (ks : List Int) (sl : List Slot) : ∀ next, (crash ks next sl).length = sl.length := by
  induction sl with
  | nil => intro _; rfl
  | cons a l ih => intro n; simp [crash, ih]
theorem crash_get (ks : List Int) {sl : List Slot} : ∀ {next : Int} {k : Nat} {s : Slot}, sl[k]? = some s → ∃ n', (crash ks next sl)[k]? = some (crashOne ks n' s).1 := by
  induction sl with
  | nil => intro next k s h; simp at h
  | cons a l ih =>
    intro next k s h
    cases k with
    | zero => simp at h; subst h; exact ⟨next, rfl⟩
    | succ k => exact ih (next := (crashOne ks next a).2) (k := k) (by simpa using h)
theorem keepN_le {ks : List Int} {n l : Int} (hl : 0 ≤ l) : 0 ≤ keepN ks n l ∧ keepN ks n l ≤ l := by
  unfold keepN; split <;> omega
/-- What a crash leaves of a slot. -/
theorem crashOne_is {ks : List Int} {n : Int} {s : Slot} (hf : Fine s) (ho : OwnB s.c) : ∃ p : Nat, s.sure ≤ p ∧ p ≤ s.b.length ∧ (crashOne ks n s).1.b = s.b.take p ∧ (crashOne ks n s).1.sure = p ∧ OwnB (crashOne ks n s).1.c := by
  unfold Fine at hf
  unfold crashOne
  split
  · rename_i hz
    exact ⟨s.b.length, by omega, Nat.le_refl _, by rw [List.take_length], by show s.sure = _; omega, ho⟩
  · have hk := keepN_le (ks := ks) (n := n) (l := s.b.length - s.sure) (by omega)
    refine ⟨(s.sure + keepN ks n (s.b.length - s.sure)).toNat, by omega, by omega, bs_own _ _, by show s.sure + _ = _; omega, .inr ⟨false, _, rfl⟩⟩
theorem crash_mem {ks : List Int} {sl : List Slot} : ∀ {next : Int} {x : Slot}, x ∈ crash ks next sl → ∃ s ∈ sl, ∃ n, x = (crashOne ks n s).1 := by
  induction sl with
  | nil => intro next x h; simp [crash] at h
  | cons a l ih =>
    intro next x h
    simp only [crash, List.mem_cons] at h
    rcases h with rfl | h
    · exact ⟨a, by simp, next, rfl⟩
    · obtain ⟨s, hs, n, rfl⟩ := ih h
      exact ⟨s, by simp [hs], n, rfl⟩
/-- A copy with what follows. -/
theorem stays (slot : Int) (sure loose : List UInt8) (ks : List Int) (hn : 0 ≤ slot ∧ slot ≤ 255) : CT n_law09_DiskStays [.int .u8 slot, .sl .shr (sure.map tb), .sl .shr (loose.map tb), .sl .shr (ks.map (.int .i64))] [] = some ⟨.bool true, [], false⟩ := by
  obtain ⟨sl0, hsl0⟩ : ∃ sl0 : List Slot, sl0 = List.replicate 4 ⟨.nils, 0⟩ := ⟨_, rfl⟩
  obtain ⟨H0, hN, hd0⟩ : ∃ H0, CT n_disk_New [.int .i64 4, .int .i64 3000] [] = some ⟨.tup [.ptr 1 0, .int .i64 0], H0, false⟩ ∧ DiskAt H0 1 0 sl0 3000 := by
    have h := disk_New (H := []) 4 3000
    rw [if_neg (by omega)] at h
    refine ⟨_, h, ⟨?_, ?_, ?_, by decide⟩⟩
    · subst hsl0; rfl
    · subst hsl0; rfl
    · intro s hs; rw [hsl0] at hs; simp at hs; subst hs; exact .inl rfl
  by_cases g1 : (sure.length : Int) > 1000
  · refine callT_of rfl tab_law09_DiskStays ?_
    simp (maxSteps := 4000000) only [↓set16, ↓sl16, trim_set, lts_nil, trim_zero, trim_one, zz0, zz1, zz2, zz3, zz4, List.set_cons_zero, List.set_cons_succ, Bool.not_false, Bool.not_true, Bool.and_self, Bool.and_true, Bool.and_false, Bool.true_and, Bool.false_and, Bool.or_false, Bool.false_or, Bool.or_true, Bool.true_or, if_true, if_false, Bool.false_eq_true, List.getElem?_cons_zero, List.getElem?_cons_succ, List.map_cons, List.map_nil, List.headD_cons, List.all_cons, List.all_nil, List.append_nil, List.nil_append, List.cons_append, List.length_cons, List.length_nil, Nat.zero_add, Nat.add_zero, Nat.one_mul, Nat.mul_one, Nat.zero_mul, Nat.zero_le, Option.map_some, Option.map_none, List.drop_zero, List.drop_succ_cons, List.take_zero, List.take_succ_cons, List.drop_nil, List.take_nil, Option.isNone_none, Option.isSome_none, Option.isNone_some, Option.isSome_some, Option.bind_some, Option.bind_none, decide_true, decide_false, decide_eq_true_eq, decide_eq_false_iff_not, and_true, true_and, and_false, false_and, or_true, true_or, or_false, false_or, not_true_eq_false, not_false_eq_true, ne_eq, Bool.not_eq_true, Bool.not_eq_false, Bool.not_eq_eq_eq_not, eq_self, ite_self, List.replicate, Bool.and_eq_true, List.contains_nil, List.any_nil, List.any_cons, List.elem_nil, St.mk.injEq, List.foldl_cons, List.foldl_nil, flat_zeros, Bool.true_eq_false, Option.some.injEq, Ret.mk.injEq, and_self, TV.tup.injEq, List.cons.injEq, TV.int.injEq, killT, delta, tak, ev, ad, taks, evs, nL, getH, pack, arith, callD, Nat.reduceAdd, Nat.reduceSub, Nat.reduceMul, Nat.reduceLeDiff, Nat.reduceEqDiff, Nat.reduceBEq, Nat.reduceBNe, Nat.reduceLT, Nat.reduceDiv, Int.reduceNeg, Int.reduceLT, Int.reduceLE, Int.reduceEq, Int.reduceNe, Int.reduceAdd, Int.reduceSub, Int.reduceMul, Int.reduceToNat, Int.reduceBEq, Int.reduceBNe, fillP, fillE, okE, okW, bound, elS, srcS, Fin, finish, ress, resOf, one, keeps, ↓reduceIte, Dl.ap, Dl.slots, okD, isLp, zeros, reduceCtorEq, List.append_assoc, List.length_append, tf_law09_DiskStays, hN, List.length_map, g1, awake_ok]
  by_cases g2 : (loose.length : Int) > 1000
  · refine callT_of rfl tab_law09_DiskStays ?_
    simp (maxSteps := 4000000) only [↓set16, ↓sl16, trim_set, lts_nil, trim_zero, trim_one, zz0, zz1, zz2, zz3, zz4, List.set_cons_zero, List.set_cons_succ, Bool.not_false, Bool.not_true, Bool.and_self, Bool.and_true, Bool.and_false, Bool.true_and, Bool.false_and, Bool.or_false, Bool.false_or, Bool.or_true, Bool.true_or, if_true, if_false, Bool.false_eq_true, List.getElem?_cons_zero, List.getElem?_cons_succ, List.map_cons, List.map_nil, List.headD_cons, List.all_cons, List.all_nil, List.append_nil, List.nil_append, List.cons_append, List.length_cons, List.length_nil, Nat.zero_add, Nat.add_zero, Nat.one_mul, Nat.mul_one, Nat.zero_mul, Nat.zero_le, Option.map_some, Option.map_none, List.drop_zero, List.drop_succ_cons, List.take_zero, List.take_succ_cons, List.drop_nil, List.take_nil, Option.isNone_none, Option.isSome_none, Option.isNone_some, Option.isSome_some, Option.bind_some, Option.bind_none, decide_true, decide_false, decide_eq_true_eq, decide_eq_false_iff_not, and_true, true_and, and_false, false_and, or_true, true_or, or_false, false_or, not_true_eq_false, not_false_eq_true, ne_eq, Bool.not_eq_true, Bool.not_eq_false, Bool.not_eq_eq_eq_not, eq_self, ite_self, List.replicate, Bool.and_eq_true, List.contains_nil, List.any_nil, List.any_cons, List.elem_nil, St.mk.injEq, List.foldl_cons, List.foldl_nil, flat_zeros, Bool.true_eq_false, Option.some.injEq, Ret.mk.injEq, and_self, TV.tup.injEq, List.cons.injEq, TV.int.injEq, killT, delta, tak, ev, ad, taks, evs, nL, getH, pack, arith, callD, Nat.reduceAdd, Nat.reduceSub, Nat.reduceMul, Nat.reduceLeDiff, Nat.reduceEqDiff, Nat.reduceBEq, Nat.reduceBNe, Nat.reduceLT, Nat.reduceDiv, Int.reduceNeg, Int.reduceLT, Int.reduceLE, Int.reduceEq, Int.reduceNe, Int.reduceAdd, Int.reduceSub, Int.reduceMul, Int.reduceToNat, Int.reduceBEq, Int.reduceBNe, fillP, fillE, okE, okW, bound, elS, srcS, Fin, finish, ress, resOf, one, keeps, ↓reduceIte, Dl.ap, Dl.slots, okD, isLp, zeros, reduceCtorEq, List.append_assoc, List.length_append, tf_law09_DiskStays, hN, List.length_map, g1, g2, awake_ok]
  by_cases g3 : (ks.length : Int) > 30
  · refine callT_of rfl tab_law09_DiskStays ?_
    simp (maxSteps := 4000000) only [↓set16, ↓sl16, trim_set, lts_nil, trim_zero, trim_one, zz0, zz1, zz2, zz3, zz4, List.set_cons_zero, List.set_cons_succ, Bool.not_false, Bool.not_true, Bool.and_self, Bool.and_true, Bool.and_false, Bool.true_and, Bool.false_and, Bool.or_false, Bool.false_or, Bool.or_true, Bool.true_or, if_true, if_false, Bool.false_eq_true, List.getElem?_cons_zero, List.getElem?_cons_succ, List.map_cons, List.map_nil, List.headD_cons, List.all_cons, List.all_nil, List.append_nil, List.nil_append, List.cons_append, List.length_cons, List.length_nil, Nat.zero_add, Nat.add_zero, Nat.one_mul, Nat.mul_one, Nat.zero_mul, Nat.zero_le, Option.map_some, Option.map_none, List.drop_zero, List.drop_succ_cons, List.take_zero, List.take_succ_cons, List.drop_nil, List.take_nil, Option.isNone_none, Option.isSome_none, Option.isNone_some, Option.isSome_some, Option.bind_some, Option.bind_none, decide_true, decide_false, decide_eq_true_eq, decide_eq_false_iff_not, and_true, true_and, and_false, false_and, or_true, true_or, or_false, false_or, not_true_eq_false, not_false_eq_true, ne_eq, Bool.not_eq_true, Bool.not_eq_false, Bool.not_eq_eq_eq_not, eq_self, ite_self, List.replicate, Bool.and_eq_true, List.contains_nil, List.any_nil, List.any_cons, List.elem_nil, St.mk.injEq, List.foldl_cons, List.foldl_nil, flat_zeros, Bool.true_eq_false, Option.some.injEq, Ret.mk.injEq, and_self, TV.tup.injEq, List.cons.injEq, TV.int.injEq, killT, delta, tak, ev, ad, taks, evs, nL, getH, pack, arith, callD, Nat.reduceAdd, Nat.reduceSub, Nat.reduceMul, Nat.reduceLeDiff, Nat.reduceEqDiff, Nat.reduceBEq, Nat.reduceBNe, Nat.reduceLT, Nat.reduceDiv, Int.reduceNeg, Int.reduceLT, Int.reduceLE, Int.reduceEq, Int.reduceNe, Int.reduceAdd, Int.reduceSub, Int.reduceMul, Int.reduceToNat, Int.reduceBEq, Int.reduceBNe, fillP, fillE, okE, okW, bound, elS, srcS, Fin, finish, ress, resOf, one, keeps, ↓reduceIte, Dl.ap, Dl.slots, okD, isLp, zeros, reduceCtorEq, List.append_assoc, List.length_append, tf_law09_DiskStays, hN, List.length_map, g1, g2, g3, awake_ok]
  obtain ⟨m, hm, hm0⟩ : ∃ m : Nat, IntKind.i64.wrap (slot.tmod 4) = (m : Int) ∧ m < 4 := by
    have h1 : slot.tmod 4 = slot % 4 := Int.tmod_eq_emod_of_nonneg hn.1
    refine ⟨(slot % 4).toNat, ?_, by omega⟩
    rw [h1, IntWalk.i64_in _ (by omega)]; omega
  have l0 : sl0.length = 4 := by rw [hsl0]; rfl
  have s0 : sl0[m]? = some ⟨.nils, 0⟩ := by rw [hsl0, List.getElem?_replicate, if_pos hm0]
  -- the first bytes
  have b0 : (Slot.mk .nils 0).b = [] := rfl
  have hA := disk_Append hd0 (m : Int) sure (by omega) (by omega) (s := ⟨.nils, 0⟩) (by simpa using s0) (by simp [b0]) (by omega)
  rw [if_neg (by rw [b0]; simp; omega), b0, List.nil_append, Int.toNat_natCast] at hA
  obtain ⟨sl1, hsl1⟩ : ∃ sl1, sl1 = put sl0 m (.sl (.own 1 false) (sure.map tb)) := ⟨_, rfl⟩
  have p1 : sl1 = sl0.set m ⟨.sl (.own 1 false) (sure.map tb), 0⟩ := by rw [hsl1, put_eq s0]
  rw [← hsl1] at hA
  have mem1 : ∀ s ∈ sl1, s = ⟨.nils, 0⟩ ∨ s = ⟨.sl (.own 1 false) (sure.map tb), 0⟩ := by
    intro s hs
    rw [p1] at hs
    rcases List.mem_or_eq_of_mem_set hs with h | h
    · rw [hsl0] at h; exact .inl (by simpa using h)
    · exact .inr h
  have ok1 : ∀ s ∈ sl1, OwnB s.c := fun s hs => by
    rcases mem1 s hs with rfl | rfl
    · exact .inl rfl
    · exact .inr ⟨false, _, rfl⟩
  have bsure : (Slot.mk (.sl (.own 1 false) (sure.map tb)) 0).b = sure := bs_own _ _
  have f1 : ∀ s ∈ sl1, Fine s := fun s hs => by
    rcases mem1 s hs with rfl | rfl
    · exact ⟨Int.le_refl _, by simp [b0], by simp [b0]⟩
    · exact ⟨Int.le_refl _, by rw [bsure]; show (0 : Int) ≤ _; omega, by rw [bsure]; omega⟩
  have l1 : sl1.length = 4 := by rw [p1, List.length_set, l0]
  obtain ⟨H1, hH1⟩ : ∃ H1, H1 = H0.set 0 (sl1.flatMap Slot.cells) := ⟨_, rfl⟩
  rw [← hH1] at hA
  have hd1 : DiskAt H1 1 0 sl1 3000 := by rw [hH1]; exact hd0.put (by omega) ok1 (by omega)
  -- made sure
  have lo1 : looseOf sl1 = sure.length := by
    rw [p1, looseOf_set s0, looseOf_zero (sl := sl0) (fun s hs => by rw [hsl0] at hs; simp at hs; subst hs; rfl), bsure, b0]; simp
  have hS := disk_Sync hd1 (by omega) (by omega) f1
  rw [lo1] at hS
  obtain ⟨sl2, hsl2⟩ : ∃ sl2, sl2 = sl1.map synS := ⟨_, rfl⟩
  rw [← hsl2] at hS
  obtain ⟨H2, hH2⟩ : ∃ H2, H2 = H1.set 0 (sl2.flatMap Slot.cells) := ⟨_, rfl⟩
  rw [← hH2] at hS
  have l2 : sl2.length = 4 := by rw [hsl2, List.length_map, l1]
  have bsyn : ∀ s : Slot, (synS s).b = s.b := fun _ => rfl
  have mem2 : ∀ s ∈ sl2, OwnB s.c ∧ Fine s ∧ (s.b.length : Int) = s.sure := by
    intro s hs
    rw [hsl2] at hs
    obtain ⟨x, hx, rfl⟩ := List.mem_map.1 hs
    have := f1 x hx
    unfold Fine at this ⊢
    rw [bsyn]
    exact ⟨ok1 x hx, ⟨by show (0 : Int) ≤ x.b.length; omega, by show (x.b.length : Int) ≤ _; omega, this.2.2⟩, rfl⟩
  have hd2 : DiskAt H2 1 0 sl2 3000 := by rw [hH2]; exact hd1.put (by omega) (fun s hs => (mem2 s hs).1) (by omega)
  have s2 : sl2[m]? = some ⟨.sl (.own 1 false) (sure.map tb), sure.length⟩ := by
    rw [hsl2, List.getElem?_map, p1, List.getElem?_set_self (by omega)]
    show some (synS _) = _
    unfold synS
    rw [bsure]
  -- the next bytes
  have b2 : (Slot.mk (.sl (.own 1 false) (sure.map tb)) sure.length).b = sure := bs_own _ _
  have hA2 := disk_Append hd2 (m : Int) loose (by omega) (by omega) (s := ⟨.sl (.own 1 false) (sure.map tb), sure.length⟩) (by simpa using s2) (by rw [b2]; omega) (by omega)
  rw [if_neg (by rw [b2]; omega), b2, Int.toNat_natCast] at hA2
  obtain ⟨sl3, hsl3⟩ : ∃ sl3, sl3 = put sl2 m (.sl (.own 1 false) ((sure ++ loose).map tb)) := ⟨_, rfl⟩
  have p3 : sl3 = sl2.set m ⟨.sl (.own 1 false) ((sure ++ loose).map tb), sure.length⟩ := by rw [hsl3, put_eq s2]
  rw [← hsl3] at hA2
  have b3 : (Slot.mk (.sl (.own 1 false) ((sure ++ loose).map tb)) sure.length).b = sure ++ loose := bs_own _ _
  have mem3 : ∀ s ∈ sl3, OwnB s.c ∧ Fine s := by
    intro s hs
    rw [p3] at hs
    rcases List.mem_or_eq_of_mem_set hs with h | rfl
    · exact ⟨(mem2 s h).1, (mem2 s h).2.1⟩
    · refine ⟨.inr ⟨false, _, rfl⟩, ?_⟩
      unfold Fine
      rw [b3, List.length_append]
      show (0 : Int) ≤ sure.length ∧ (sure.length : Int) ≤ _ ∧ _
      omega
  have l3 : sl3.length = 4 := by rw [p3, List.length_set, l2]
  obtain ⟨H3, hH3⟩ : ∃ H3, H3 = H2.set 0 (sl3.flatMap Slot.cells) := ⟨_, rfl⟩
  rw [← hH3] at hA2
  have hd3 : DiskAt H3 1 0 sl3 3000 := by rw [hH3]; exact hd2.put (by omega) (fun s hs => (mem3 s hs).1) (by omega)
  have s3 : sl3[m]? = some ⟨.sl (.own 1 false) ((sure ++ loose).map tb), sure.length⟩ := by rw [p3, List.getElem?_set_self (by omega)]
  have lo3 : looseOf sl3 = loose.length := by
    rw [p3, looseOf_set s2, looseOf_zero (sl := sl2) (fun s hs => (mem2 s hs).2.2), b2, b3, List.length_append]
    show (0 : Int) - (sure.length - sure.length) + (_ - sure.length) = _
    omega
  have hL3 := disk_Loose hd3 (by omega) (by omega) (fun s hs => (mem3 s hs).2)
  rw [lo3] at hL3
  -- the crash
  have hC := disk_Crash hd3 (by omega) (by omega) (fun s hs => (mem3 s hs).2) ks (by omega)
  obtain ⟨sl4, hsl4⟩ : ∃ sl4, sl4 = crash ks 0 sl3 := ⟨_, rfl⟩
  rw [← hsl4] at hC
  obtain ⟨H4, hH4⟩ : ∃ H4, H4 = H3.set 0 (sl4.flatMap Slot.cells) := ⟨_, rfl⟩
  rw [← hH4] at hC
  have l4 : sl4.length = 4 := by rw [hsl4, crash_length, l3]
  have mem4 : ∀ s ∈ sl4, OwnB s.c ∧ Fine s ∧ (s.b.length : Int) = s.sure := by
    intro s hs
    rw [hsl4] at hs
    obtain ⟨x, hx, n, rfl⟩ := crash_mem hs
    obtain ⟨hox, hfx⟩ := mem3 x hx
    obtain ⟨p, q1, q2, q3, q4, q5⟩ := crashOne_is (ks := ks) (n := n) hfx hox
    unfold Fine at hfx ⊢
    rw [q3, q4, List.length_take]
    exact ⟨q5, by omega, by omega⟩
  have hd4 : DiskAt H4 1 0 sl4 3000 := by rw [hH4]; exact hd3.put (by omega) (fun s hs => (mem4 s hs).1) (by omega)
  obtain ⟨n4, s4⟩ := crash_get ks (next := 0) s3
  rw [← hsl4] at s4
  obtain ⟨p, q1, q2, q3, q4, q5⟩ := crashOne_is (ks := ks) (n := n4) (mem3 _ (List.mem_of_getElem? s3)).2 (mem3 _ (List.mem_of_getElem? s3)).1
  rw [b3] at q2 q3
  have q1 : (sure.length : Int) ≤ p := q1
  have hR := disk_Read hd4 (m : Int) (by omega) (s := (crashOne ks n4 ⟨.sl (.own 1 false) ((sure ++ loose).map tb), sure.length⟩).1) (by simpa using s4) (by rw [q3, List.length_take, List.length_append]; omega)
  rw [q3] at hR
  have hL4 := disk_Loose hd4 (by omega) (by omega) (fun s hs => (mem4 s hs).2.1)
  rw [looseOf_zero (fun s hs => (mem4 s hs).2.2)] at hL4
  have hcl := clone_bytes (H := H4) sure (by omega)
  have e1 : ((sure.length : Int) != sure.length) = false := by simp
  have e2 : ((loose.length : Int) != loose.length) = false := by simp
  have hlp : ((sure ++ loose).take p).length = p := by rw [List.length_take]; omega
  have hrb : ∀ k : Nat, k ≤ 2000000 → k ≤ roomB := fun k h => by unfold roomB; omega
  rw [List.length_append] at q2
  have hp0 : (0 : Int) ≤ p := by omega
  have hge : (p : Int) ≥ sure.length := q1
  obtain ⟨b', hb'⟩ : ∃ b', b' = (sure ++ loose).take p := ⟨_, rfl⟩
  rw [← hb'] at hR hlp
  have hEq := bytes_Equal (H := H4) b' b' (by omega)
  rw [decide_eq_true rfl] at hEq
  have hle : (p : Int) ≤ (sure.length + loose.length : Nat) := by omega
  have htk : ((sure ++ loose).map tb).take p = b'.map tb := by rw [hb', List.map_take]
  have hokS := okb (sure ++ loose)
  have hokL := okb loose
  have hokl := okb sure
  have hma : sure.map tb ++ loose.map tb = (sure ++ loose).map tb := List.map_append.symm
  have hlap : (sure ++ loose).length = sure.length + loose.length := List.length_append
  have hR2 := hrb (sure.length + loose.length) (by omega)
  have hgive : gave b' = .nils ∧ b' = [] ∨ gave b' = .sl (.own 1 false) (b'.map tb) := by
    unfold gave; split
    · exact .inl ⟨rfl, List.eq_nil_of_length_eq_zero (by assumption)⟩
    · exact .inr rfl
  have hcl2 : (CT n_slices_Clone_byte_byte [.sl .shr (sure.map tb)] H4 = some ⟨.nils, H4, false⟩ ∧ sure = []) ∨ CT n_slices_Clone_byte_byte [.sl .shr (sure.map tb)] H4 = some ⟨.asl false 1 H4.length 0 sure.length, H4 ++ [sure.map tb], false⟩ ∧ ¬ sure.length = 0 := by
    rw [hcl]; split
    · exact .inl ⟨rfl, List.eq_nil_of_length_eq_zero (by assumption)⟩
    · exact .inr ⟨rfl, by assumption⟩
  have htr := trim_clone (H := H4) sure
  rcases hcl2 with ⟨hcl2, hsn⟩ | ⟨hcl2, hsn⟩
  · have hap : sure ++ loose = loose := by rw [hsn]; rfl
    rw [hap] at htk
    have hle2 : (p : Int) ≤ loose.length := by rw [hsn] at hle; simpa using hle
    rcases hgive with ⟨hg, hb0⟩ | hg
    · rw [hg] at hR
      have hz : (p : Int) = 0 := by rw [hb0] at hlp; simp at hlp; omega
      have h0s : ((0 : Nat) : Int) ≥ sure.length := by omega
      have h0l : ((0 : Nat) : Int) ≤ loose.length := by omega
      have h00 : (0 : Int) ≤ ((0 : Nat) : Int) := by omega
      have hEq0 : CT n_slices_Equal_byte_byte [.sl .shr [], .sl .shr []] H4 = some ⟨.bool true, H4, false⟩ := bytes_Equal [] [] (by simp)
      refine callT_of rfl tab_law09_DiskStays ?_
      simp (maxSteps := 4000000) only [↓set16, ↓sl16, trim_set, lts_nil, trim_zero, trim_one, zz0, zz1, zz2, zz3, zz4, List.set_cons_zero, List.set_cons_succ, Bool.not_false, Bool.not_true, Bool.and_self, Bool.and_true, Bool.and_false, Bool.true_and, Bool.false_and, Bool.or_false, Bool.false_or, Bool.or_true, Bool.true_or, if_true, if_false, Bool.false_eq_true, List.getElem?_cons_zero, List.getElem?_cons_succ, List.map_cons, List.map_nil, List.headD_cons, List.all_cons, List.all_nil, List.append_nil, List.nil_append, List.cons_append, List.length_cons, List.length_nil, Nat.zero_add, Nat.add_zero, Nat.one_mul, Nat.mul_one, Nat.zero_mul, Nat.zero_le, Option.map_some, Option.map_none, List.drop_zero, List.drop_succ_cons, List.take_zero, List.take_succ_cons, List.drop_nil, List.take_nil, Option.isNone_none, Option.isSome_none, Option.isNone_some, Option.isSome_some, Option.bind_some, Option.bind_none, decide_true, decide_false, decide_eq_true_eq, decide_eq_false_iff_not, and_true, true_and, and_false, false_and, or_true, true_or, or_false, false_or, not_true_eq_false, not_false_eq_true, ne_eq, Bool.not_eq_true, Bool.not_eq_false, Bool.not_eq_eq_eq_not, eq_self, ite_self, List.replicate, Bool.and_eq_true, List.contains_nil, List.any_nil, List.any_cons, List.elem_nil, St.mk.injEq, List.foldl_cons, List.foldl_nil, flat_zeros, Bool.true_eq_false, Option.some.injEq, Ret.mk.injEq, and_self, TV.tup.injEq, List.cons.injEq, TV.int.injEq, killT, delta, tak, ev, ad, taks, evs, nL, getH, pack, arith, callD, Nat.reduceAdd, Nat.reduceSub, Nat.reduceMul, Nat.reduceLeDiff, Nat.reduceEqDiff, Nat.reduceBEq, Nat.reduceBNe, Nat.reduceLT, Nat.reduceDiv, Int.reduceNeg, Int.reduceLT, Int.reduceLE, Int.reduceEq, Int.reduceNe, Int.reduceAdd, Int.reduceSub, Int.reduceMul, Int.reduceToNat, Int.reduceBEq, Int.reduceBNe, fillP, fillE, okE, okW, bound, elS, srcS, Fin, finish, ress, resOf, one, keeps, ↓reduceIte, Dl.ap, Dl.slots, okD, isLp, zeros, reduceCtorEq, List.append_assoc, List.length_append, tf_law09_DiskStays, hN, List.length_map, g1, g2, g3, awake_ok, hm, hA, hS, hA2, hL3, hC, hR, hL4, hcl2, e1, e2, hokL, h0s, h0l, h00, List.take_zero, hEq0, hR2, hrb loose.length (by omega), Int.toNat_natCast]
    · rw [hg] at hR
      refine callT_of rfl tab_law09_DiskStays ?_
      simp (maxSteps := 4000000) only [↓set16, ↓sl16, trim_set, lts_nil, trim_zero, trim_one, zz0, zz1, zz2, zz3, zz4, List.set_cons_zero, List.set_cons_succ, Bool.not_false, Bool.not_true, Bool.and_self, Bool.and_true, Bool.and_false, Bool.true_and, Bool.false_and, Bool.or_false, Bool.false_or, Bool.or_true, Bool.true_or, if_true, if_false, Bool.false_eq_true, List.getElem?_cons_zero, List.getElem?_cons_succ, List.map_cons, List.map_nil, List.headD_cons, List.all_cons, List.all_nil, List.append_nil, List.nil_append, List.cons_append, List.length_cons, List.length_nil, Nat.zero_add, Nat.add_zero, Nat.one_mul, Nat.mul_one, Nat.zero_mul, Nat.zero_le, Option.map_some, Option.map_none, List.drop_zero, List.drop_succ_cons, List.take_zero, List.take_succ_cons, List.drop_nil, List.take_nil, Option.isNone_none, Option.isSome_none, Option.isNone_some, Option.isSome_some, Option.bind_some, Option.bind_none, decide_true, decide_false, decide_eq_true_eq, decide_eq_false_iff_not, and_true, true_and, and_false, false_and, or_true, true_or, or_false, false_or, not_true_eq_false, not_false_eq_true, ne_eq, Bool.not_eq_true, Bool.not_eq_false, Bool.not_eq_eq_eq_not, eq_self, ite_self, List.replicate, Bool.and_eq_true, List.contains_nil, List.any_nil, List.any_cons, List.elem_nil, St.mk.injEq, List.foldl_cons, List.foldl_nil, flat_zeros, Bool.true_eq_false, Option.some.injEq, Ret.mk.injEq, and_self, TV.tup.injEq, List.cons.injEq, TV.int.injEq, killT, delta, tak, ev, ad, taks, evs, nL, getH, pack, arith, callD, Nat.reduceAdd, Nat.reduceSub, Nat.reduceMul, Nat.reduceLeDiff, Nat.reduceEqDiff, Nat.reduceBEq, Nat.reduceBNe, Nat.reduceLT, Nat.reduceDiv, Int.reduceNeg, Int.reduceLT, Int.reduceLE, Int.reduceEq, Int.reduceNe, Int.reduceAdd, Int.reduceSub, Int.reduceMul, Int.reduceToNat, Int.reduceBEq, Int.reduceBNe, fillP, fillE, okE, okW, bound, elS, srcS, Fin, finish, ress, resOf, one, keeps, ↓reduceIte, Dl.ap, Dl.slots, okD, isLp, zeros, reduceCtorEq, List.append_assoc, List.length_append, tf_law09_DiskStays, hN, List.length_map, g1, g2, g3, awake_ok, hm, hA, hS, hA2, hL3, hC, hR, hL4, hcl2, e1, e2, hokL, hlp, hge, hle2, htk, hEq, hR2, hrb loose.length (by omega), hp0, Int.toNat_natCast]
  · rcases hgive with ⟨hg, hb0⟩ | hg
    · rw [hb0] at hlp; simp at hlp; omega
    · rw [hg] at hR
      refine callT_of rfl tab_law09_DiskStays ?_
      simp (maxSteps := 4000000) only [↓set16, ↓sl16, trim_set, lts_nil, trim_zero, trim_one, zz0, zz1, zz2, zz3, zz4, List.set_cons_zero, List.set_cons_succ, Bool.not_false, Bool.not_true, Bool.and_self, Bool.and_true, Bool.and_false, Bool.true_and, Bool.false_and, Bool.or_false, Bool.false_or, Bool.or_true, Bool.true_or, if_true, if_false, Bool.false_eq_true, List.getElem?_cons_zero, List.getElem?_cons_succ, List.map_cons, List.map_nil, List.headD_cons, List.all_cons, List.all_nil, List.append_nil, List.nil_append, List.cons_append, List.length_cons, List.length_nil, Nat.zero_add, Nat.add_zero, Nat.one_mul, Nat.mul_one, Nat.zero_mul, Nat.zero_le, Option.map_some, Option.map_none, List.drop_zero, List.drop_succ_cons, List.take_zero, List.take_succ_cons, List.drop_nil, List.take_nil, Option.isNone_none, Option.isSome_none, Option.isNone_some, Option.isSome_some, Option.bind_some, Option.bind_none, decide_true, decide_false, decide_eq_true_eq, decide_eq_false_iff_not, and_true, true_and, and_false, false_and, or_true, true_or, or_false, false_or, not_true_eq_false, not_false_eq_true, ne_eq, Bool.not_eq_true, Bool.not_eq_false, Bool.not_eq_eq_eq_not, eq_self, ite_self, List.replicate, Bool.and_eq_true, List.contains_nil, List.any_nil, List.any_cons, List.elem_nil, St.mk.injEq, List.foldl_cons, List.foldl_nil, flat_zeros, Bool.true_eq_false, Option.some.injEq, Ret.mk.injEq, and_self, TV.tup.injEq, List.cons.injEq, TV.int.injEq, killT, delta, tak, ev, ad, taks, evs, nL, getH, pack, arith, callD, Nat.reduceAdd, Nat.reduceSub, Nat.reduceMul, Nat.reduceLeDiff, Nat.reduceEqDiff, Nat.reduceBEq, Nat.reduceBNe, Nat.reduceLT, Nat.reduceDiv, Int.reduceNeg, Int.reduceLT, Int.reduceLE, Int.reduceEq, Int.reduceNe, Int.reduceAdd, Int.reduceSub, Int.reduceMul, Int.reduceToNat, Int.reduceBEq, Int.reduceBNe, fillP, fillE, okE, okW, bound, elS, srcS, Fin, finish, ress, resOf, one, keeps, ↓reduceIte, Dl.ap, Dl.slots, okD, isLp, zeros, reduceCtorEq, List.append_assoc, List.length_append, tf_law09_DiskStays, hN, List.length_map, g1, g2, g3, awake_ok, hm, hA, hS, hA2, hL3, hC, hR, hL4, hcl2, htr, e1, e2, hokL, hokl, hokS, hma, hlap, hlp, hge, hle, htk, hEq, hR2, hp0, Int.toNat_natCast]
end Go.T
