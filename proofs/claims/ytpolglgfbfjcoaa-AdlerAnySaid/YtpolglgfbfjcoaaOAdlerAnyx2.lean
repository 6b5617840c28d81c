/- One part of the proof of the statement AdlerAny: the functions that it reaches, each with a plain Lean function of the same answers and the walk that shows it. No condition.
   (Lines that the kit's print wrote for this claim, turned by a program of ours and repaired where they fell: a text of our own, not a printed one.) -/
import Derived.Test.YtpolglgfbfjcoaaOAdlerAnyx0
import Derived.Test.YtpolglgfbfjcoaaOAdlerAnyx1
namespace Go.Proofs.Ytpolglgfbfjcoaa.OAdlerAny
open Go.RowKit Go.Proofs.YtpolglgfbfjcoaaW.PrintWords Go.Proofs.YtpolglgfbfjcoaaW.PrintLast Go.Proofs.YtpolglgfbfjcoaaW.PrintMore
attribute [local go_sem] max2_int min2_int max_two min_two max_three min_three max_four min_four   -- for this text's walks alone
set_option linter.unusedVariables false
set_option linter.unusedSimpArgs false

/-! ### adler_Roll: function 23 -/
def adler_Roll.f (a0 : Int) (a1 : Int) (a2 : Int) (a3 : Int) : Option (Int) := (adler_of.f a0).bind fun bt134 => ((adler_turned.f (wrap64 ((wrap64 ((wrap64 (bt134.1)) - (wrap64 (a2)))) + (wrap64 (a3))))).bind fun t137 => ((adler_long.f a1).bind fun t138 => ((adler_turned.f (wrap64 ((wrap64 ((wrap64 ((wrap64 (bt134.2)) - (wrap64 (t138 * (wrap64 (a2)))))) + (wrap64 ((wrap64 ((wrap64 (bt134.1)) - (wrap64 (a2)))) + (wrap64 (a3)))))) - 1))).bind fun t139 => ((adler_halves_sum.f t137 t139).bind fun t140 => (some t140)))))
def adler_Roll.T3 : Bool × List (List Nat × List Nat) := (true, [([], []), ([0], [0]), ([], []), ([2], [2]), ([3], [3]), ([], []), ([5, 1], [5]), ([], []), ([7], [7]), ([6, 8], [6, 8]), ([4, 9], [4, 9]), ([], []), ([10, 11], [10, 11]), ([12], [12]), ([13, 6], [13]), ([1, 14], [1, 14]), ([15, 14], [15]), ([16, 16, 0, 1, 2, 3, 4, 5, 6, 7, 8, 9, 10, 11, 12, 13, 14, 15, 16], [16])])
def adler_Roll.B3 : List Nat := [0, 1, 0, 4, 12, 0, 35, 0, 128, 483, 1023, 0, 4095, 8191, 16383, 32767, 65535, 131071]
theorem adler_Roll.tab3 : rtab .any (opsOf Try.f23 3) = adler_Roll.T3 := by kernel_rfl
theorem adler_Roll.bits3 : waitsOk adler_Roll.T3.2 adler_Roll.B3 = true := by kernel_rfl
set_option maxHeartbeats 8000000 in
set_option maxRecDepth 100000 in
theorem adler_Roll.calls (a0 : Int) (a1 : Int) (a2 : Int) (a3 : Int) (r : Int) (w : World) (h : adler_Roll.f a0 a1 a2 a3 = some r) :
    Calls Try.prog 23 #[.int .u32 a0, .int .i64 a1, .int .u8 a2, .int .u8 a3] w fun e w' => e = .returned (.int .u32 r) ∧ Below w.heap.size w w' := by
  have hu45 := Try.underlying45
  have HB := Aside0.mk (Below.refl w.heap.size w)
  have H : ((adler_of.f a0).bind fun bt134 => ((adler_turned.f (wrap64 ((wrap64 ((wrap64 (bt134.1)) - (wrap64 (a2)))) + (wrap64 (a3))))).bind fun t137 => ((adler_long.f a1).bind fun t138 => ((adler_turned.f (wrap64 ((wrap64 ((wrap64 ((wrap64 (bt134.2)) - (wrap64 (t138 * (wrap64 (a2)))))) + (wrap64 ((wrap64 ((wrap64 (bt134.1)) - (wrap64 (a2)))) + (wrap64 (a3)))))) - 1))).bind fun t139 => ((adler_halves_sum.f t137 t139).bind fun t140 => (some t140)))))) = some r := h
  clear h
  replace H := Option.bind_eq_some_iff.mp H
  obtain ⟨⟨t134, t135⟩, A50, H⟩ := H
  replace H : ((adler_turned.f (wrap64 ((wrap64 ((wrap64 (t134)) - (wrap64 (a2)))) + (wrap64 (a3))))).bind fun t137 => ((adler_long.f a1).bind fun t138 => ((adler_turned.f (wrap64 ((wrap64 ((wrap64 ((wrap64 (t135)) - (wrap64 (t138 * (wrap64 (a2)))))) + (wrap64 ((wrap64 ((wrap64 (t134)) - (wrap64 (a2)))) + (wrap64 (a3)))))) - 1))).bind fun t139 => ((adler_halves_sum.f t137 t139).bind fun t140 => (some t140))))) = some r := H
  have A5 := Aside0.mk A50
  clear A50
  replace H := Option.bind_eq_some_iff.mp H
  obtain ⟨t137, A60, H⟩ := H
  replace H : ((adler_long.f a1).bind fun t138 => ((adler_turned.f (wrap64 ((wrap64 ((wrap64 ((wrap64 (t135)) - (wrap64 (t138 * (wrap64 (a2)))))) + (wrap64 ((wrap64 ((wrap64 (t134)) - (wrap64 (a2)))) + (wrap64 (a3)))))) - 1))).bind fun t139 => ((adler_halves_sum.f t137 t139).bind fun t140 => (some t140)))) = some r := H
  have A6 := Aside0.mk A60
  clear A60
  replace H := Option.bind_eq_some_iff.mp H
  obtain ⟨t138, A70, H⟩ := H
  replace H : ((adler_turned.f (wrap64 ((wrap64 ((wrap64 ((wrap64 (t135)) - (wrap64 (t138 * (wrap64 (a2)))))) + (wrap64 ((wrap64 ((wrap64 (t134)) - (wrap64 (a2)))) + (wrap64 (a3)))))) - 1))).bind fun t139 => ((adler_halves_sum.f t137 t139).bind fun t140 => (some t140))) = some r := H
  have A7 := Aside0.mk A70
  clear A70
  replace H := Option.bind_eq_some_iff.mp H
  obtain ⟨t139, A80, H⟩ := H
  replace H : ((adler_halves_sum.f t137 t139).bind fun t140 => (some t140)) = some r := H
  have A8 := Aside0.mk A80
  clear A80
  replace H := Option.bind_eq_some_iff.mp H
  obtain ⟨t140, A90, H⟩ := H
  replace H : (some t140) = some r := H
  have A9 := Aside0.mk A90
  clear A90
  obtain rfl := Option.some.inj H
  go_enter Try.func23, Try.ntmps23
  try go_wp2_with (first | ((with_reducible refine gate_callee (f := 40) rfl ?_); refine goesL_ (some 12) rfl rfl Try.func40 (by kernel_rfl) rfl #[.int .u32 a0] rfl (by (try simp only [List.map_toArray, List.map_cons, List.map_nil]); first | done | rfl | (simp only [List.length_drop, List.length_take]; rfl)) ?_; (with_reducible refine (adler_of.calls a0 t134 t135 _ A5.out).mono ?_); rintro e w10 ⟨rfl, hb⟩; refine ⟨_, rfl, ?_⟩; have n0_ := Aside0.mk (below_step (by repeat (first | (with_reducible first | exact HB.out | apply below_alloc | apply pw_below_drewN | apply below_drew1) | exact HB.out)) hb); clear HB; have HB := n0_; clear n0_; (try clear hb); (try clear hb2); (try clear hk); (try clear hi)) | ((with_reducible refine gate_dst (N := 9) rfl ?_); refine box_event ?hg (N := 9) ?hd (cs := #[.int .u32 0, .int .u32 0]) (t := 45) ?hr ?_; (case hd => rfl); (case hg => rfl); (case hr => first | (go_simp; done) | (go_simp; rfl)); intro gb136 hg w11 hbox hb; have n0_ := Aside0.mk (below_step (by repeat (first | (with_reducible first | exact HB.out | apply below_alloc | apply pw_below_drewN | apply below_drew1) | exact HB.out)) hb); have n1_ := Aside0.mk (hbox); have n2_ := Aside0.mk ((by rw [hg]; exact (below_size (by repeat (first | (with_reducible first | exact HB.out | apply below_alloc | apply pw_below_drewN | apply below_drew1) | exact HB.out))) : w.heap.size ≤ gb136)); have n3_ := Aside0.mk ((by rw [hg]; exact (below_size (by repeat (first | (with_reducible first | exact HB.out | apply below_alloc | apply pw_below_drewN | apply below_drew1) | exact HB.out))) : w.heap.size ≤ gb136)); clear HB; have HB := n0_; have BK136 := n1_; have GW136 := n2_; have GE136 := n3_; clear n0_ n1_ n2_ n3_; clear hb hbox hg; have hcz12_0 : w11.cell? ⟨gb136, 0, none⟩ = some (.int .u32 0) := (blk_cell BK136.out 0).trans rfl; have hcz12_1 : w11.cell? ⟨gb136, 1, none⟩ = some (.int .u32 0) := (blk_cell BK136.out 1).trans rfl; have hfz12_0 := blk_frozen BK136.out 0; have hfz12_1 := blk_frozen BK136.out 1))
  have n0_ : Aside0 (((w11.setCell ⟨gb136, 0, none⟩ (.int .u32 t134)).setCell ⟨gb136, 1, none⟩ (.int .u32 t135)).heap[gb136]? = some (.cells #[.int .u32 t134, .int .u32 t135] 45 (0, 0))) := ⟨by (with_reducible repeat (first | refine blk_drewN ?_ _ | refine blk_drew ?_ | refine blk_alloc ?_ _)); refine blk_put (cs := #[.int .u32 t134, .int .u32 0]) ?_ 1 _ rfl; (with_reducible repeat (first | refine blk_drewN ?_ _ | refine blk_drew ?_ | refine blk_alloc ?_ _)); refine blk_put (cs := #[.int .u32 0, .int .u32 0]) ?_ 0 _ rfl; (with_reducible repeat (first | refine blk_drewN ?_ _ | refine blk_drew ?_ | refine blk_alloc ?_ _)); exact BK136.out⟩
  have n1_ : Aside0 (Below w.heap.size w ((w11.setCell ⟨gb136, 0, none⟩ (.int .u32 t134)).setCell ⟨gb136, 1, none⟩ (.int .u32 t135))) := ⟨by repeat (first | (with_reducible first | exact HB.out | apply below_alloc | apply pw_below_drewN | apply below_drew1 | refine below_set ?_ GE136.out) | exact HB.out)⟩
  (try clear BK136)
  (try clear HB)
  generalize ((w11.setCell ⟨gb136, 0, none⟩ (.int .u32 t134)).setCell ⟨gb136, 1, none⟩ (.int .u32 t135)) = w13 at n0_ n1_ ⊢
  have BK136 := n0_
  have HB := n1_
  clear n0_ n1_
  have n0_ := Aside0.mk (blk_drew BK136.out)
  have n1_ := Aside0.mk (below_drew1 HB.out)
  clear BK136
  clear HB
  have BK136 := n0_
  have HB := n1_
  clear n0_ n1_
  refine start_ (n := 18) (S := fun w' => w'.cell? ⟨gb136, 0, none⟩ = some (.int .u32 t134) ∧ w'.cell? ⟨gb136, 1, none⟩ = some (.int .u32 t135)) (ds := []) #[false, false, false, false, false, false, false, false, false, false, false, false, false, false, false, false, false, false] (by kernel_rfl) rfl rfl ⟨(blk_cell BK136.out 0).trans rfl, (blk_cell BK136.out 1).trans rfl⟩ (fun hHeld => ?_); refine with_tabW adler_Roll.tab3 adler_Roll.bits3 (fun HT_ HW_ => ?_)
  generalize w13.drew = w14 at BK136 HB hHeld ⊢
  refine pure_ (i := 0) (N := some 22) (v := ?_) (a' := ?_) #[true, false, false, false, false, false, false, false, false, false, false, false, false, false, false, false, false, false] rfl rfl (any_of HT_.out (by kernel_rfl)) (fun _ _ _ h => h) (Or.inl ⟨by rfl, ?_⟩) ?_ ?_
  rotate_left
  · intro w'
    go_simp
    with_reducible rfl
  rotate_left
  · simp only [Act.put, List.setIfInBounds_toArray, List.set_cons_zero, List.set_cons_succ, i64_w, i32_w]
    rfl
  refine pure_ (i := 2) (N := some 24) (v := ?_) (a' := ?_) #[true, false, true, false, false, false, false, false, false, false, false, false, false, false, false, false, false, false] rfl rfl (any_of HT_.out (by kernel_rfl)) (fun _ _ _ h => h) (Or.inl ⟨by rfl, ?_⟩) ?_ ?_
  rotate_left
  · intro w'
    go_simp
    with_reducible rfl
  rotate_left
  · simp only [Act.put, List.setIfInBounds_toArray, List.set_cons_zero, List.set_cons_succ, i64_w, i32_w]
    rfl
  refine pure_ (i := 5) (N := some 27) (v := ?_) (a' := ?_) #[true, false, true, false, false, true, false, false, false, false, false, false, false, false, false, false, false, false] rfl rfl (any_of HT_.out (by kernel_rfl)) (fun _ _ _ h => h) (Or.inl ⟨by rfl, ?_⟩) ?_ ?_
  rotate_left
  · intro w'
    go_simp
    with_reducible rfl
  rotate_left
  · simp only [Act.put, List.setIfInBounds_toArray, List.set_cons_zero, List.set_cons_succ, i64_w, i32_w]
    rfl
  refine pure_ (i := 7) (N := some 29) (v := ?_) (a' := ?_) #[true, false, true, false, false, true, false, true, false, false, false, false, false, false, false, false, false, false] rfl rfl (any_of HT_.out (by kernel_rfl)) (fun _ _ _ h => h) (Or.inl ⟨by rfl, ?_⟩) ?_ ?_
  rotate_left
  · intro w'
    go_simp
    with_reducible rfl
  rotate_left
  · simp only [Act.put, List.setIfInBounds_toArray, List.set_cons_zero, List.set_cons_succ, i64_w, i32_w]
    rfl
  refine pure_ (i := 8) (N := some 30) (v := ?_) (a' := ?_) #[true, false, true, false, false, true, false, true, true, false, false, false, false, false, false, false, false, false] rfl rfl (any_of HT_.out (by kernel_rfl)) (fun _ _ _ h => h) (Or.inl ⟨by rfl, ?_⟩) ?_ ?_
  rotate_left
  · intro w'
    go_simp
    with_reducible rfl
  rotate_left
  · simp only [Act.put, List.setIfInBounds_toArray, List.set_cons_zero, List.set_cons_succ, i64_w, i32_w]
    rfl
  refine pure_ (i := 11) (N := some 33) (v := ?_) (a' := ?_) #[true, false, true, false, false, true, false, true, true, false, false, true, false, false, false, false, false, false] rfl rfl (any_of HT_.out (by kernel_rfl)) (fun _ _ _ h => h) (Or.inl ⟨by rfl, ?_⟩) ?_ ?_
  rotate_left
  · intro w'
    go_simp
    with_reducible rfl
  rotate_left
  · simp only [Act.put, List.setIfInBounds_toArray, List.set_cons_zero, List.set_cons_succ, i64_w, i32_w]
    rfl
  refine take_ (i := 3) (N := some 25) (v := ?_) (a' := ?_) #[true, false, true, true, false, true, false, true, true, false, false, true, false, false, false, false, false, false] rfl rfl (take_ofW HT_.out HW_.out (by kernel_rfl)) (fun _ _ _ h => h) (Or.inl ⟨by rfl, ?_⟩) hHeld ?_ ?_
  rotate_left
  · rintro w' ⟨s0, s1⟩
    go_simp
    with_reducible rfl
  rotate_left
  · simp only [Act.put, List.setIfInBounds_toArray, List.set_cons_zero, List.set_cons_succ, i64_w, i32_w]
    rfl
  refine pure_ (i := 4) (N := some 26) (v := ?_) (a' := ?_) #[true, false, true, true, true, true, false, true, true, false, false, true, false, false, false, false, false, false] rfl rfl (any_of HT_.out (by kernel_rfl)) (fun _ _ _ h => h) (Or.inl ⟨by rfl, ?_⟩) ?_ ?_
  rotate_left
  · intro w'
    go_simp
    with_reducible rfl
  rotate_left
  · simp only [Act.put, List.setIfInBounds_toArray, List.set_cons_zero, List.set_cons_succ, i64_w, i32_w]
    rfl
  refine one_ (i := 1) (N := some 23) #[true, true, true, true, true, true, false, true, true, false, false, true, false, false, false, false, false, false] rfl rfl (one_of HT_.out (by kernel_rfl)) (by decide) (fun K hK => ?_)
  refine goes_ Try.func45 (by kernel_rfl) rfl #[.int .i64 (wrap64 ((wrap64 ((wrap64 (t134)) - (wrap64 (a2)))) + (wrap64 (a3))))] (by rfl) rfl rfl (by (try simp only [List.map_toArray, List.map_cons, List.map_nil]); first | done | rfl | (simp only [List.length_drop, List.length_take]; rfl)) ?_
  with_reducible refine (adler_turned.calls (wrap64 ((wrap64 ((wrap64 (t134)) - (wrap64 (a2)))) + (wrap64 (a3)))) t137 _ A6.out).mono ?_
  rintro e w' ⟨rfl, ⟨nd, rfl⟩⟩
  refine ⟨_, rfl, ?_⟩
  refine hK.out _ _ ⟨(blk_cell BK136.out 0).trans rfl, (blk_cell BK136.out 1).trans rfl⟩ (fun hHeld => ?_)
  clear hK K
  refine norm_ (a' := ?_) ?_ ?_
  rotate_left
  · show Act.put _ (some 23) _ = _
    simp only [Act.put, List.setIfInBounds_toArray, List.set_cons_zero, List.set_cons_succ, i64_w, i32_w]
    rfl
  refine one_ (i := 6) (N := some 28) #[true, true, true, true, true, true, true, true, true, false, false, true, false, false, false, false, false, false] rfl rfl (one_of HT_.out (by kernel_rfl)) (by decide) (fun K hK => ?_)
  refine goes_ Try.func46 (by kernel_rfl) rfl #[.int .i64 a1] (by rfl) rfl rfl (by (try simp only [List.map_toArray, List.map_cons, List.map_nil]); first | done | rfl | (simp only [List.length_drop, List.length_take]; rfl)) ?_
  with_reducible refine (adler_long.calls a1 t138 _ A7.out).mono ?_
  rintro e w15 ⟨rfl, hb⟩
  refine ⟨_, rfl, ?_⟩
  have n0_ := Aside0.mk (blk_below (g := gb136) (o := .cells #[.int .u32 t134, .int .u32 t135] 45 (0, 0)) (by (with_reducible repeat (first | refine blk_drewN ?_ _ | refine blk_drew ?_ | refine blk_alloc ?_ _)); exact BK136.out) hb)
  have n1_ := Aside0.mk (below_step (by repeat (first | (with_reducible first | exact HB.out | apply below_alloc | apply pw_below_drewN | apply below_drew1 | refine below_set ?_ GE136.out) | exact HB.out)) hb)
  clear BK136
  clear HB
  have BK136 := n0_
  have HB := n1_
  clear n0_ n1_
  (try clear hb)
  (try clear hb2)
  (try clear hk)
  (try clear hi)
  refine hK.out _ _ ⟨(blk_cell BK136.out 0).trans rfl, (blk_cell BK136.out 1).trans rfl⟩ (fun hHeld => ?_)
  clear hK K
  refine norm_ (a' := ?_) ?_ ?_
  rotate_left
  · show Act.put _ (some 28) _ = _
    simp only [Act.put, List.setIfInBounds_toArray, List.set_cons_zero, List.set_cons_succ, i64_w, i32_w]
    rfl
  refine pure_ (i := 9) (N := some 31) (v := ?_) (a' := ?_) #[true, true, true, true, true, true, true, true, true, true, false, true, false, false, false, false, false, false] rfl rfl (any_of HT_.out (by kernel_rfl)) (fun _ _ _ h => h) (Or.inl ⟨by rfl, ?_⟩) ?_ ?_
  rotate_left
  · intro w'
    go_simp
    with_reducible rfl
  rotate_left
  · simp only [Act.put, List.setIfInBounds_toArray, List.set_cons_zero, List.set_cons_succ, i64_w, i32_w]
    rfl
  refine pure_ (i := 10) (N := some 32) (v := ?_) (a' := ?_) #[true, true, true, true, true, true, true, true, true, true, true, true, false, false, false, false, false, false] rfl rfl (any_of HT_.out (by kernel_rfl)) (fun _ _ _ h => h) (Or.inl ⟨by rfl, ?_⟩) ?_ ?_
  rotate_left
  · intro w'
    go_simp
    with_reducible rfl
  rotate_left
  · simp only [Act.put, List.setIfInBounds_toArray, List.set_cons_zero, List.set_cons_succ, i64_w, i32_w]
    rfl
  refine pure_ (i := 12) (N := some 34) (v := ?_) (a' := ?_) #[true, true, true, true, true, true, true, true, true, true, true, true, true, false, false, false, false, false] rfl rfl (any_of HT_.out (by kernel_rfl)) (fun _ _ _ h => h) (Or.inl ⟨by rfl, ?_⟩) ?_ ?_
  rotate_left
  · intro w'
    go_simp
    with_reducible rfl
  rotate_left
  · simp only [Act.put, List.setIfInBounds_toArray, List.set_cons_zero, List.set_cons_succ, i64_w, i32_w]
    rfl
  refine pure_ (i := 13) (N := some 35) (v := ?_) (a' := ?_) #[true, true, true, true, true, true, true, true, true, true, true, true, true, true, false, false, false, false] rfl rfl (any_of HT_.out (by kernel_rfl)) (fun _ _ _ h => h) (Or.inl ⟨by rfl, ?_⟩) ?_ ?_
  rotate_left
  · intro w'
    go_simp
    with_reducible rfl
  rotate_left
  · simp only [Act.put, List.setIfInBounds_toArray, List.set_cons_zero, List.set_cons_succ, i64_w, i32_w]
    rfl
  refine one_ (i := 14) (N := some 36) #[true, true, true, true, true, true, true, true, true, true, true, true, true, true, true, false, false, false] rfl rfl (one_of HT_.out (by kernel_rfl)) (by decide) (fun K hK => ?_)
  refine goes_ Try.func45 (by kernel_rfl) rfl #[.int .i64 (wrap64 ((wrap64 ((wrap64 ((wrap64 (t135)) - (wrap64 (t138 * (wrap64 (a2)))))) + (wrap64 ((wrap64 ((wrap64 (t134)) - (wrap64 (a2)))) + (wrap64 (a3)))))) - 1))] (by rfl) rfl rfl (by (try simp only [List.map_toArray, List.map_cons, List.map_nil]); first | done | rfl | (simp only [List.length_drop, List.length_take]; rfl)) ?_
  with_reducible refine (adler_turned.calls (wrap64 ((wrap64 ((wrap64 ((wrap64 (t135)) - (wrap64 (t138 * (wrap64 (a2)))))) + (wrap64 ((wrap64 ((wrap64 (t134)) - (wrap64 (a2)))) + (wrap64 (a3)))))) - 1)) t139 _ A8.out).mono ?_
  rintro e w' ⟨rfl, ⟨nd, rfl⟩⟩
  refine ⟨_, rfl, ?_⟩
  refine hK.out _ _ ⟨(blk_cell BK136.out 0).trans rfl, (blk_cell BK136.out 1).trans rfl⟩ (fun hHeld => ?_)
  clear hK K
  refine norm_ (a' := ?_) ?_ ?_
  rotate_left
  · show Act.put _ (some 36) _ = _
    simp only [Act.put, List.setIfInBounds_toArray, List.set_cons_zero, List.set_cons_succ, i64_w, i32_w]
    rfl
  refine pure_ (i := 15) (N := some 37) (v := ?_) (a' := ?_) #[true, true, true, true, true, true, true, true, true, true, true, true, true, true, true, true, false, false] rfl rfl (any_of HT_.out (by kernel_rfl)) (fun _ _ _ h => h) (Or.inl ⟨by rfl, ?_⟩) ?_ ?_
  rotate_left
  · intro w'
    go_simp
    with_reducible rfl
  rotate_left
  · simp only [Act.put, List.setIfInBounds_toArray, List.set_cons_zero, List.set_cons_succ, i64_w, i32_w]
    rfl
  refine one_ (i := 16) (N := some 38) #[true, true, true, true, true, true, true, true, true, true, true, true, true, true, true, true, true, false] rfl rfl (one_of HT_.out (by kernel_rfl)) (by decide) (fun K hK => ?_)
  refine goes_ Try.func41 (by kernel_rfl) rfl #[.agg #[.int .u32 t137, .int .u32 t139]] (by rfl) rfl rfl (by (try simp only [List.map_toArray, List.map_cons, List.map_nil]); first | done | rfl | (simp only [List.length_drop, List.length_take]; rfl)) ?_
  with_reducible refine (adler_halves_sum.calls t137 t139 t140 _ A9.out).mono ?_
  rintro e w16 ⟨rfl, hb⟩
  refine ⟨_, rfl, ?_⟩
  have n0_ := Aside0.mk (blk_below (g := gb136) (o := .cells #[.int .u32 t134, .int .u32 t135] 45 (0, 0)) (by (with_reducible repeat (first | refine blk_drewN ?_ _ | refine blk_drew ?_ | refine blk_alloc ?_ _)); exact BK136.out) hb)
  have n1_ := Aside0.mk (below_step (by repeat (first | (with_reducible first | exact HB.out | apply below_alloc | apply pw_below_drewN | apply below_drew1 | refine below_set ?_ GE136.out) | exact HB.out)) hb)
  clear BK136
  clear HB
  have BK136 := n0_
  have HB := n1_
  clear n0_ n1_
  (try clear hb)
  (try clear hb2)
  (try clear hk)
  (try clear hi)
  refine hK.out _ _ ⟨(blk_cell BK136.out 0).trans rfl, (blk_cell BK136.out 1).trans rfl⟩ (fun hHeld => ?_)
  clear hK K
  refine norm_ (a' := ?_) ?_ ?_
  rotate_left
  · show Act.put _ (some 38) _ = _
    simp only [Act.put, List.setIfInBounds_toArray, List.set_cons_zero, List.set_cons_succ, i64_w, i32_w]
    rfl
  refine pure_ (i := 17) (N := some 8) (v := ?_) (a' := ?_) #[true, true, true, true, true, true, true, true, true, true, true, true, true, true, true, true, true, true] rfl rfl (any_of HT_.out (by kernel_rfl)) (fun _ _ _ h => h) (Or.inl ⟨by rfl, ?_⟩) ?_ ?_
  rotate_left
  · intro w'
    go_simp
    with_reducible rfl
  rotate_left
  · simp only [Act.put, List.setIfInBounds_toArray, List.set_cons_zero, List.set_cons_succ, i64_w, i32_w]
    rfl
  refine done_ (done_of HT_.out (by kernel_rfl)) ?_
  try go_wp2
  go_ret
  exact ⟨by first | rfl | (simp [errW_none, errW_some] <;> rfl) | (simp [*, errW_none, errW_some] <;> rfl), by repeat (first | (with_reducible first | exact HB.out | apply below_alloc | apply pw_below_drewN | apply below_drew1 | refine below_set ?_ GE136.out) | exact HB.out)⟩

/-! ### baileyref05_low: function 42 -/
def baileyref05_low.f (a0 : Int) : Option (Int) := some (Int.tmod (wrap64 (Int.tmod a0 65536)) 65521)
set_option maxHeartbeats 8000000 in
set_option maxRecDepth 100000 in
theorem baileyref05_low.calls (a0 : Int) (r : Int) (w : World) (h : baileyref05_low.f a0 = some r) :
    Calls Try.prog 42 #[.int .u32 a0] w fun e w' => e = .returned (.int .i64 r) ∧ Drawn0 w w' := by
  have H : (some (Int.tmod (wrap64 (Int.tmod a0 65536)) 65521)) = some r := h
  clear h
  obtain rfl := Option.some.inj H
  go_enter Try.func42, Try.ntmps42
  go_wp2
  go_ret
  exact ⟨by first | rfl | (simp; done) | (simp [*]; done), by repeat (first | exact Drawn0.refl _ | apply Drawn0.step)⟩

/-! ### baileyref05_high: function 43 -/
def baileyref05_high.f (a0 : Int) : Option (Int) := some (((Int.tdiv a0 65536) % 4294967296) % 65521)
set_option maxHeartbeats 8000000 in
set_option maxRecDepth 100000 in
theorem baileyref05_high.calls (a0 : Int) (r : Int) (w : World) (h : baileyref05_high.f a0 = some r) :
    Calls Try.prog 43 #[.int .u32 a0] w fun e w' => e = .returned (.int .i64 r) ∧ Drawn0 w w' := by
  have H : (some (((Int.tdiv a0 65536) % 4294967296) % 65521)) = some r := h
  clear h
  obtain rfl := Option.some.inj H
  go_enter Try.func43, Try.ntmps43
  go_wp2
  go_ret
  exact ⟨by first | rfl | (simp; done) | (simp [*]; done), by repeat (first | exact Drawn0.refl _ | apply Drawn0.step)⟩

/-! ### baileyref05_of: function 44 -/
def baileyref05_of.f (a0 : Int) (a1 : Int) : Option (Int) := if (Int.tmod a0 65521) < 0 then (if (Int.tmod a1 65521) < 0 then (some ((wrap64 ((wrap64 ((wrap64 ((Int.tmod a1 65521) + 65521)) * 65536)) + (wrap64 ((Int.tmod a0 65521) + 65521)))) % 4294967296)) else (some ((wrap64 ((wrap64 ((Int.tmod a1 65521) * 65536)) + (wrap64 ((Int.tmod a0 65521) + 65521)))) % 4294967296))) else (if (Int.tmod a1 65521) < 0 then (some ((wrap64 ((wrap64 ((wrap64 ((Int.tmod a1 65521) + 65521)) * 65536)) + (Int.tmod a0 65521))) % 4294967296)) else (some ((wrap64 ((wrap64 ((Int.tmod a1 65521) * 65536)) + (Int.tmod a0 65521))) % 4294967296)))
set_option maxHeartbeats 8000000 in
set_option maxRecDepth 100000 in
theorem baileyref05_of.calls (a0 : Int) (a1 : Int) (r : Int) (w : World) (h : baileyref05_of.f a0 a1 = some r) :
    Calls Try.prog 44 #[.int .i64 a0, .int .i64 a1] w fun e w' => e = .returned (.int .u32 r) ∧ Drawn0 w w' := by
  have H : (if (Int.tmod a0 65521) < 0 then (if (Int.tmod a1 65521) < 0 then (some ((wrap64 ((wrap64 ((wrap64 ((Int.tmod a1 65521) + 65521)) * 65536)) + (wrap64 ((Int.tmod a0 65521) + 65521)))) % 4294967296)) else (some ((wrap64 ((wrap64 ((Int.tmod a1 65521) * 65536)) + (wrap64 ((Int.tmod a0 65521) + 65521)))) % 4294967296))) else (if (Int.tmod a1 65521) < 0 then (some ((wrap64 ((wrap64 ((wrap64 ((Int.tmod a1 65521) + 65521)) * 65536)) + (Int.tmod a0 65521))) % 4294967296)) else (some ((wrap64 ((wrap64 ((Int.tmod a1 65521) * 65536)) + (Int.tmod a0 65521))) % 4294967296)))) = some r := h
  clear h
  by_cases c3 : (Int.tmod a0 65521) < 0
  · rw [if_pos c3] at H
    have c3b0 : decide ((Int.tmod a0 65521) < 0) = true := decide_eq_true c3
    clear c3
    by_cases c4 : (Int.tmod a1 65521) < 0
    · rw [if_pos c4] at H
      have c4b0 : decide ((Int.tmod a1 65521) < 0) = true := decide_eq_true c4
      clear c4
      obtain rfl := Option.some.inj H
      go_enter Try.func44, Try.ntmps44
      go_wp2
      go_ret
      exact ⟨by first | rfl | (simp; done) | (simp [*]; done), by repeat (first | exact Drawn0.refl _ | apply Drawn0.step)⟩
    · rw [if_neg c4] at H
      have c4b0 : decide ((Int.tmod a1 65521) < 0) = false := decide_eq_false c4
      clear c4
      obtain rfl := Option.some.inj H
      go_enter Try.func44, Try.ntmps44
      go_wp2
      go_ret
      exact ⟨by first | rfl | (simp; done) | (simp [*]; done), by repeat (first | exact Drawn0.refl _ | apply Drawn0.step)⟩
  · rw [if_neg c3] at H
    have c3b0 : decide ((Int.tmod a0 65521) < 0) = false := decide_eq_false c3
    clear c3
    by_cases c5 : (Int.tmod a1 65521) < 0
    · rw [if_pos c5] at H
      have c5b0 : decide ((Int.tmod a1 65521) < 0) = true := decide_eq_true c5
      clear c5
      obtain rfl := Option.some.inj H
      go_enter Try.func44, Try.ntmps44
      go_wp2
      go_ret
      exact ⟨by first | rfl | (simp; done) | (simp [*]; done), by repeat (first | exact Drawn0.refl _ | apply Drawn0.step)⟩
    · rw [if_neg c5] at H
      have c5b0 : decide ((Int.tmod a1 65521) < 0) = false := decide_eq_false c5
      clear c5
      obtain rfl := Option.some.inj H
      go_enter Try.func44, Try.ntmps44
      go_wp2
      go_ret
      exact ⟨by first | rfl | (simp; done) | (simp [*]; done), by repeat (first | exact Drawn0.refl _ | apply Drawn0.step)⟩

/-! ### baileyref05_Join: function 24 -/
def baileyref05_Join.f (a0 : Int) (a1 : Int) (a2 : Int) : Option (Int) := (baileyref05_low.f a0).bind fun t141 => ((baileyref05_low.f a1).bind fun t142 => ((baileyref05_high.f a0).bind fun t143 => ((baileyref05_high.f a1).bind fun t144 => ((baileyref05_low.f a0).bind fun t145 => ((baileyref05_of.f (wrap64 ((wrap64 (t141 + t142)) - 1)) (wrap64 ((wrap64 (t143 + t144)) + (wrap64 (((mx a2 0) % 65521) * (wrap64 (t145 - 1))))))).bind fun t146 => (some t146))))))
set_option maxHeartbeats 8000000 in
set_option maxRecDepth 100000 in
theorem baileyref05_Join.calls (a0 : Int) (a1 : Int) (a2 : Int) (r : Int) (w : World) (h : baileyref05_Join.f a0 a1 a2 = some r) :
    Calls Try.prog 24 #[.int .u32 a0, .int .u32 a1, .int .i64 a2] w fun e w' => e = .returned (.int .u32 r) ∧ Below w.heap.size w w' := by
  have HB := Aside0.mk (Below.refl w.heap.size w)
  have H : ((baileyref05_low.f a0).bind fun t141 => ((baileyref05_low.f a1).bind fun t142 => ((baileyref05_high.f a0).bind fun t143 => ((baileyref05_high.f a1).bind fun t144 => ((baileyref05_low.f a0).bind fun t145 => ((baileyref05_of.f (wrap64 ((wrap64 (t141 + t142)) - 1)) (wrap64 ((wrap64 (t143 + t144)) + (wrap64 (((mx a2 0) % 65521) * (wrap64 (t145 - 1))))))).bind fun t146 => (some t146))))))) = some r := h
  clear h
  obtain ⟨ji4, hji4⟩ : ∃ j_ : Int, (mx a2 0) = j_ := ⟨_, rfl⟩
  replace H : ((baileyref05_low.f a0).bind fun t141 => ((baileyref05_low.f a1).bind fun t142 => ((baileyref05_high.f a0).bind fun t143 => ((baileyref05_high.f a1).bind fun t144 => ((baileyref05_low.f a0).bind fun t145 => ((baileyref05_of.f (wrap64 ((wrap64 (t141 + t142)) - 1)) (wrap64 ((wrap64 (t143 + t144)) + (wrap64 (((ji4) % 65521) * (wrap64 (t145 - 1))))))).bind fun t146 => (some t146))))))) = some r := by first | (rw [hji4] at H; exact H) | (simp only [hji4] at H ⊢; exact H)
  (try (have hji4l : 0 ≤ ji4 := by (rw [← hji4]; unfold mx; (repeat' split) <;> omega)))
  (try (have hji4m : 0 ≤ ji4 := by omega))
  have hji4_ : (if a2 < 0 then 0 else a2) = ji4 := hji4
  replace H := Option.bind_eq_some_iff.mp H
  obtain ⟨t141, A50, H⟩ := H
  replace H : ((baileyref05_low.f a1).bind fun t142 => ((baileyref05_high.f a0).bind fun t143 => ((baileyref05_high.f a1).bind fun t144 => ((baileyref05_low.f a0).bind fun t145 => ((baileyref05_of.f (wrap64 ((wrap64 (t141 + t142)) - 1)) (wrap64 ((wrap64 (t143 + t144)) + (wrap64 (((ji4) % 65521) * (wrap64 (t145 - 1))))))).bind fun t146 => (some t146)))))) = some r := H
  have A5 := Aside0.mk A50
  clear A50
  replace H := Option.bind_eq_some_iff.mp H
  obtain ⟨t142, A60, H⟩ := H
  replace H : ((baileyref05_high.f a0).bind fun t143 => ((baileyref05_high.f a1).bind fun t144 => ((baileyref05_low.f a0).bind fun t145 => ((baileyref05_of.f (wrap64 ((wrap64 (t141 + t142)) - 1)) (wrap64 ((wrap64 (t143 + t144)) + (wrap64 (((ji4) % 65521) * (wrap64 (t145 - 1))))))).bind fun t146 => (some t146))))) = some r := H
  have A6 := Aside0.mk A60
  clear A60
  replace H := Option.bind_eq_some_iff.mp H
  obtain ⟨t143, A70, H⟩ := H
  replace H : ((baileyref05_high.f a1).bind fun t144 => ((baileyref05_low.f a0).bind fun t145 => ((baileyref05_of.f (wrap64 ((wrap64 (t141 + t142)) - 1)) (wrap64 ((wrap64 (t143 + t144)) + (wrap64 (((ji4) % 65521) * (wrap64 (t145 - 1))))))).bind fun t146 => (some t146)))) = some r := H
  have A7 := Aside0.mk A70
  clear A70
  replace H := Option.bind_eq_some_iff.mp H
  obtain ⟨t144, A80, H⟩ := H
  replace H : ((baileyref05_low.f a0).bind fun t145 => ((baileyref05_of.f (wrap64 ((wrap64 (t141 + t142)) - 1)) (wrap64 ((wrap64 (t143 + t144)) + (wrap64 (((ji4) % 65521) * (wrap64 (t145 - 1))))))).bind fun t146 => (some t146))) = some r := H
  have A8 := Aside0.mk A80
  clear A80
  replace H := Option.bind_eq_some_iff.mp H
  obtain ⟨t145, A90, H⟩ := H
  replace H : ((baileyref05_of.f (wrap64 ((wrap64 (t141 + t142)) - 1)) (wrap64 ((wrap64 (t143 + t144)) + (wrap64 (((ji4) % 65521) * (wrap64 (t145 - 1))))))).bind fun t146 => (some t146)) = some r := H
  have A9 := Aside0.mk A90
  clear A90
  replace H := Option.bind_eq_some_iff.mp H
  obtain ⟨t146, A100, H⟩ := H
  replace H : (some t146) = some r := H
  have A10 := Aside0.mk A100
  clear A100
  obtain rfl := Option.some.inj H
  go_enter Try.func24, Try.ntmps24
  go_wp2_with (first | ((with_reducible refine gate_callee (f := 42) rfl ?_); refine goesL_ (some 11) rfl rfl Try.func42 (by kernel_rfl) rfl #[.int .u32 a0] rfl (by (try simp only [List.map_toArray, List.map_cons, List.map_nil]); first | done | rfl | (simp only [List.length_drop, List.length_take]; rfl)) ?_; (with_reducible refine (baileyref05_low.calls a0 t141 _ A5.out).mono ?_); rintro e w' ⟨rfl, ⟨nd, rfl⟩⟩; refine ⟨_, rfl, ?_⟩) | ((with_reducible refine gate_callee (f := 42) rfl ?_); refine goesL_ (some 13) rfl rfl Try.func42 (by kernel_rfl) rfl #[.int .u32 a1] rfl (by (try simp only [List.map_toArray, List.map_cons, List.map_nil]); first | done | rfl | (simp only [List.length_drop, List.length_take]; rfl)) ?_; (with_reducible refine (baileyref05_low.calls a1 t142 _ A6.out).mono ?_); rintro e w' ⟨rfl, ⟨nd, rfl⟩⟩; refine ⟨_, rfl, ?_⟩) | ((with_reducible refine gate_callee (f := 43) rfl ?_); refine goesL_ (some 17) rfl rfl Try.func43 (by kernel_rfl) rfl #[.int .u32 a0] rfl (by (try simp only [List.map_toArray, List.map_cons, List.map_nil]); first | done | rfl | (simp only [List.length_drop, List.length_take]; rfl)) ?_; (with_reducible refine (baileyref05_high.calls a0 t143 _ A7.out).mono ?_); rintro e w' ⟨rfl, ⟨nd, rfl⟩⟩; refine ⟨_, rfl, ?_⟩) | ((with_reducible refine gate_callee (f := 43) rfl ?_); refine goesL_ (some 19) rfl rfl Try.func43 (by kernel_rfl) rfl #[.int .u32 a1] rfl (by (try simp only [List.map_toArray, List.map_cons, List.map_nil]); first | done | rfl | (simp only [List.length_drop, List.length_take]; rfl)) ?_; (with_reducible refine (baileyref05_high.calls a1 t144 _ A8.out).mono ?_); rintro e w' ⟨rfl, ⟨nd, rfl⟩⟩; refine ⟨_, rfl, ?_⟩) | ((with_reducible refine gate_callee (f := 42) rfl ?_); refine goesL_ (some 23) rfl rfl Try.func42 (by kernel_rfl) rfl #[.int .u32 a0] rfl (by (try simp only [List.map_toArray, List.map_cons, List.map_nil]); first | done | rfl | (simp only [List.length_drop, List.length_take]; rfl)) ?_; (with_reducible refine (baileyref05_low.calls a0 t145 _ A9.out).mono ?_); rintro e w' ⟨rfl, ⟨nd, rfl⟩⟩; refine ⟨_, rfl, ?_⟩) | ((with_reducible refine gate_callee (f := 44) rfl ?_); refine goesL_ (some 27) rfl rfl Try.func44 (by kernel_rfl) rfl #[.int .i64 (wrap64 ((wrap64 (t141 + t142)) - 1)), .int .i64 (wrap64 ((wrap64 (t143 + t144)) + (wrap64 (((ji4) % 65521) * (wrap64 (t145 - 1))))))] rfl (by (try simp only [List.map_toArray, List.map_cons, List.map_nil]); first | done | (simp only [hji4]; rfl) | rfl | (simp only [List.length_drop, List.length_take]; rfl)) ?_; (with_reducible refine (baileyref05_of.calls (wrap64 ((wrap64 (t141 + t142)) - 1)) (wrap64 ((wrap64 (t143 + t144)) + (wrap64 (((ji4) % 65521) * (wrap64 (t145 - 1)))))) t146 _ A10.out).mono ?_); rintro e w' ⟨rfl, ⟨nd, rfl⟩⟩; refine ⟨_, rfl, ?_⟩))
  go_ret
  exact ⟨by first | rfl | (simp [errW_none, errW_some] <;> rfl) | (simp only [← hji4]; first | rfl | (simp [errW_none, errW_some] <;> rfl)) | (simp [*, errW_none, errW_some] <;> rfl), by repeat (first | (with_reducible first | exact HB.out | apply below_alloc | apply pw_below_drewN | apply below_drew1) | exact HB.out)⟩

/-! ### baileyref05_Roll: function 25 -/
def baileyref05_Roll.f (a0 : Int) (a1 : Int) (a2 : Int) (a3 : Int) : Option (Int) := (baileyref05_low.f a0).bind fun t147 => ((baileyref05_high.f a0).bind fun t148 => ((baileyref05_of.f (wrap64 ((wrap64 (t147 - (wrap64 (a2)))) + (wrap64 (a3)))) (wrap64 ((wrap64 ((wrap64 (t148 - (wrap64 (((mx a1 0) % 65521) * (wrap64 (a2)))))) + (wrap64 ((wrap64 (t147 - (wrap64 (a2)))) + (wrap64 (a3)))))) - 1))).bind fun t149 => (some t149)))
set_option maxHeartbeats 8000000 in
set_option maxRecDepth 100000 in
theorem baileyref05_Roll.calls (a0 : Int) (a1 : Int) (a2 : Int) (a3 : Int) (r : Int) (w : World) (h : baileyref05_Roll.f a0 a1 a2 a3 = some r) :
    Calls Try.prog 25 #[.int .u32 a0, .int .i64 a1, .int .u8 a2, .int .u8 a3] w fun e w' => e = .returned (.int .u32 r) ∧ Below w.heap.size w w' := by
  have HB := Aside0.mk (Below.refl w.heap.size w)
  have H : ((baileyref05_low.f a0).bind fun t147 => ((baileyref05_high.f a0).bind fun t148 => ((baileyref05_of.f (wrap64 ((wrap64 (t147 - (wrap64 (a2)))) + (wrap64 (a3)))) (wrap64 ((wrap64 ((wrap64 (t148 - (wrap64 (((mx a1 0) % 65521) * (wrap64 (a2)))))) + (wrap64 ((wrap64 (t147 - (wrap64 (a2)))) + (wrap64 (a3)))))) - 1))).bind fun t149 => (some t149)))) = some r := h
  clear h
  obtain ⟨ji5, hji5⟩ : ∃ j_ : Int, (mx a1 0) = j_ := ⟨_, rfl⟩
  replace H : ((baileyref05_low.f a0).bind fun t147 => ((baileyref05_high.f a0).bind fun t148 => ((baileyref05_of.f (wrap64 ((wrap64 (t147 - (wrap64 (a2)))) + (wrap64 (a3)))) (wrap64 ((wrap64 ((wrap64 (t148 - (wrap64 (((ji5) % 65521) * (wrap64 (a2)))))) + (wrap64 ((wrap64 (t147 - (wrap64 (a2)))) + (wrap64 (a3)))))) - 1))).bind fun t149 => (some t149)))) = some r := by first | (rw [hji5] at H; exact H) | (simp only [hji5] at H ⊢; exact H)
  (try (have hji5l : 0 ≤ ji5 := by (rw [← hji5]; unfold mx; (repeat' split) <;> omega)))
  (try (have hji5m : 0 ≤ ji5 := by omega))
  have hji5_ : (if a1 < 0 then 0 else a1) = ji5 := hji5
  replace H := Option.bind_eq_some_iff.mp H
  obtain ⟨t147, A60, H⟩ := H
  replace H : ((baileyref05_high.f a0).bind fun t148 => ((baileyref05_of.f (wrap64 ((wrap64 (t147 - (wrap64 (a2)))) + (wrap64 (a3)))) (wrap64 ((wrap64 ((wrap64 (t148 - (wrap64 (((ji5) % 65521) * (wrap64 (a2)))))) + (wrap64 ((wrap64 (t147 - (wrap64 (a2)))) + (wrap64 (a3)))))) - 1))).bind fun t149 => (some t149))) = some r := H
  have A6 := Aside0.mk A60
  clear A60
  replace H := Option.bind_eq_some_iff.mp H
  obtain ⟨t148, A70, H⟩ := H
  replace H : ((baileyref05_of.f (wrap64 ((wrap64 (t147 - (wrap64 (a2)))) + (wrap64 (a3)))) (wrap64 ((wrap64 ((wrap64 (t148 - (wrap64 (((ji5) % 65521) * (wrap64 (a2)))))) + (wrap64 ((wrap64 (t147 - (wrap64 (a2)))) + (wrap64 (a3)))))) - 1))).bind fun t149 => (some t149)) = some r := H
  have A7 := Aside0.mk A70
  clear A70
  replace H := Option.bind_eq_some_iff.mp H
  obtain ⟨t149, A80, H⟩ := H
  replace H : (some t149) = some r := H
  have A8 := Aside0.mk A80
  clear A80
  obtain rfl := Option.some.inj H
  go_enter Try.func25, Try.ntmps25
  go_wp2_with (first | ((with_reducible refine gate_callee (f := 42) rfl ?_); refine goesL_ (some 14) rfl rfl Try.func42 (by kernel_rfl) rfl #[.int .u32 a0] rfl (by (try simp only [List.map_toArray, List.map_cons, List.map_nil]); first | done | rfl | (simp only [List.length_drop, List.length_take]; rfl)) ?_; (with_reducible refine (baileyref05_low.calls a0 t147 _ A6.out).mono ?_); rintro e w' ⟨rfl, ⟨nd, rfl⟩⟩; refine ⟨_, rfl, ?_⟩) | ((with_reducible refine gate_callee (f := 43) rfl ?_); refine goesL_ (some 23) rfl rfl Try.func43 (by kernel_rfl) rfl #[.int .u32 a0] rfl (by (try simp only [List.map_toArray, List.map_cons, List.map_nil]); first | done | rfl | (simp only [List.length_drop, List.length_take]; rfl)) ?_; (with_reducible refine (baileyref05_high.calls a0 t148 _ A7.out).mono ?_); rintro e w' ⟨rfl, ⟨nd, rfl⟩⟩; refine ⟨_, rfl, ?_⟩) | ((with_reducible refine gate_callee (f := 44) rfl ?_); refine goesL_ (some 32) rfl rfl Try.func44 (by kernel_rfl) rfl #[.int .i64 (wrap64 ((wrap64 (t147 - (wrap64 (a2)))) + (wrap64 (a3)))), .int .i64 (wrap64 ((wrap64 ((wrap64 (t148 - (wrap64 (((ji5) % 65521) * (wrap64 (a2)))))) + (wrap64 ((wrap64 (t147 - (wrap64 (a2)))) + (wrap64 (a3)))))) - 1))] rfl (by (try simp only [List.map_toArray, List.map_cons, List.map_nil]); first | done | (simp only [hji5]; rfl) | rfl | (simp only [List.length_drop, List.length_take]; rfl)) ?_; (with_reducible refine (baileyref05_of.calls (wrap64 ((wrap64 (t147 - (wrap64 (a2)))) + (wrap64 (a3)))) (wrap64 ((wrap64 ((wrap64 (t148 - (wrap64 (((ji5) % 65521) * (wrap64 (a2)))))) + (wrap64 ((wrap64 (t147 - (wrap64 (a2)))) + (wrap64 (a3)))))) - 1)) t149 _ A8.out).mono ?_); rintro e w' ⟨rfl, ⟨nd, rfl⟩⟩; refine ⟨_, rfl, ?_⟩))
  go_ret
  exact ⟨by first | rfl | (simp [errW_none, errW_some] <;> rfl) | (simp only [← hji5]; first | rfl | (simp [errW_none, errW_some] <;> rfl)) | (simp [*, errW_none, errW_some] <;> rfl), by repeat (first | (with_reducible first | exact HB.out | apply below_alloc | apply pw_below_drewN | apply below_drew1) | exact HB.out)⟩

/-! ### baileylaw05_AdlerAny: function 9 -/
def baileylaw05_AdlerAny.f (k : Nat) (a0 : Int) (a1 : Int) (a2 : Int) (a3 : Int) (a4 : Int) : Option (Bool) := (adler_Join.f a0 a1 a2).bind fun t150 => ((baileyref05_Join.f a0 a1 a2).bind fun t151 => (if t150 = t151 then ((adler_Roll.f a0 a2 a3 a4).bind fun t152 => ((baileyref05_Roll.f a0 a2 a3 a4).bind fun t153 => (if t152 = t153 then ((baileylaw05_awake.f k).bind fun t154 => (some t154)) else (some false)))) else (some false)))
theorem baileylaw05_AdlerAny.mono : ∀ a0 a1 a2 a3 a4 k, LeO (baileylaw05_AdlerAny.f k a0 a1 a2 a3 a4) (baileylaw05_AdlerAny.f (k + 1) a0 a1 a2 a3 a4) := by
  intro a0 a1 a2 a3 a4 k
  unfold baileylaw05_AdlerAny.f
  repeat' first
      | (with_reducible exact baileylaw05_awake.mono _)
      | (with_reducible exact LeO.refl _)
      | (with_reducible exact LeO.none _)
      | (with_reducible refine LeO.ite ?_ ?_)
      | (with_reducible refine LeO.bind ?_ (fun _ => ?_))
      | exact baileylaw05_awake.mono _
      | exact LeO.none _
      | refine LeO.ite ?_ ?_
      | refine LeO.bind ?_ (fun _ => ?_)
set_option maxHeartbeats 8000000 in
set_option maxRecDepth 100000 in
theorem baileylaw05_AdlerAny.calls (k : Nat) (a0 : Int) (a1 : Int) (a2 : Int) (a3 : Int) (a4 : Int) (r : Bool) (w : World) (h : baileylaw05_AdlerAny.f k a0 a1 a2 a3 a4 = some r) :
    Calls Try.prog 9 #[.int .u32 a0, .int .u32 a1, .int .i64 a2, .int .u8 a3, .int .u8 a4] w fun e w' => e = .returned (.bool r) ∧ Below w.heap.size w w' := by
  have HB := Aside0.mk (Below.refl w.heap.size w)
  have H : ((adler_Join.f a0 a1 a2).bind fun t150 => ((baileyref05_Join.f a0 a1 a2).bind fun t151 => (if t150 = t151 then ((adler_Roll.f a0 a2 a3 a4).bind fun t152 => ((baileyref05_Roll.f a0 a2 a3 a4).bind fun t153 => (if t152 = t153 then ((baileylaw05_awake.f k).bind fun t154 => (some t154)) else (some false)))) else (some false)))) = some r := h
  clear h
  replace H := Option.bind_eq_some_iff.mp H
  obtain ⟨t150, A60, H⟩ := H
  replace H : ((baileyref05_Join.f a0 a1 a2).bind fun t151 => (if t150 = t151 then ((adler_Roll.f a0 a2 a3 a4).bind fun t152 => ((baileyref05_Roll.f a0 a2 a3 a4).bind fun t153 => (if t152 = t153 then ((baileylaw05_awake.f k).bind fun t154 => (some t154)) else (some false)))) else (some false))) = some r := H
  have A6 := Aside0.mk A60
  clear A60
  replace H := Option.bind_eq_some_iff.mp H
  obtain ⟨t151, A70, H⟩ := H
  replace H : (if t150 = t151 then ((adler_Roll.f a0 a2 a3 a4).bind fun t152 => ((baileyref05_Roll.f a0 a2 a3 a4).bind fun t153 => (if t152 = t153 then ((baileylaw05_awake.f k).bind fun t154 => (some t154)) else (some false)))) else (some false)) = some r := H
  have A7 := Aside0.mk A70
  clear A70
  by_cases c8 : t150 = t151
  · rw [if_pos c8] at H
    have c8b0 : (t150 == t151) = true := beq_iff_eq.mpr c8
    have c8b1 : (t150 != t151) = false := bne_eq_false_iff_eq.mpr c8
    clear c8
    replace H := Option.bind_eq_some_iff.mp H
    obtain ⟨t152, A90, H⟩ := H
    replace H : ((baileyref05_Roll.f a0 a2 a3 a4).bind fun t153 => (if t152 = t153 then ((baileylaw05_awake.f k).bind fun t154 => (some t154)) else (some false))) = some r := H
    have A9 := Aside0.mk A90
    clear A90
    replace H := Option.bind_eq_some_iff.mp H
    obtain ⟨t153, A100, H⟩ := H
    replace H : (if t152 = t153 then ((baileylaw05_awake.f k).bind fun t154 => (some t154)) else (some false)) = some r := H
    have A10 := Aside0.mk A100
    clear A100
    by_cases c11 : t152 = t153
    · rw [if_pos c11] at H
      have c11b0 : (t152 == t153) = true := beq_iff_eq.mpr c11
      have c11b1 : (t152 != t153) = false := bne_eq_false_iff_eq.mpr c11
      clear c11
      replace H := Option.bind_eq_some_iff.mp H
      obtain ⟨t154, A120, H⟩ := H
      replace H : (some t154) = some r := H
      have A12 := Aside0.mk A120
      clear A120
      obtain rfl := Option.some.inj H
      go_enter Try.func9, Try.ntmps9
      go_wp2_with (first | ((with_reducible refine gate_callee (f := 22) rfl ?_); refine goesL_ (some 14) rfl rfl Try.func22 (by kernel_rfl) rfl #[.int .u32 a0, .int .u32 a1, .int .i64 a2] rfl (by (try simp only [List.map_toArray, List.map_cons, List.map_nil]); first | done | rfl | (simp only [List.length_drop, List.length_take]; rfl)) ?_; (with_reducible refine (adler_Join.calls a0 a1 a2 t150 _ A6.out).mono ?_); rintro e w13 ⟨rfl, hb⟩; refine ⟨_, rfl, ?_⟩; have n0_ := Aside0.mk (below_step (by repeat (first | (with_reducible first | exact HB.out | apply below_alloc | apply pw_below_drewN | apply below_drew1) | exact HB.out)) hb); clear HB; have HB := n0_; clear n0_; (try clear hb); (try clear hb2); (try clear hk); (try clear hi)) | ((with_reducible refine gate_callee (f := 24) rfl ?_); refine goesL_ (some 18) rfl rfl Try.func24 (by kernel_rfl) rfl #[.int .u32 a0, .int .u32 a1, .int .i64 a2] rfl (by (try simp only [List.map_toArray, List.map_cons, List.map_nil]); first | done | rfl | (simp only [List.length_drop, List.length_take]; rfl)) ?_; (with_reducible refine (baileyref05_Join.calls a0 a1 a2 t151 _ A7.out).mono ?_); rintro e w14 ⟨rfl, hb⟩; refine ⟨_, rfl, ?_⟩; have n0_ := Aside0.mk (below_step (by repeat (first | (with_reducible first | exact HB.out | apply below_alloc | apply pw_below_drewN | apply below_drew1) | exact HB.out)) hb); clear HB; have HB := n0_; clear n0_; (try clear hb); (try clear hb2); (try clear hk); (try clear hi)) | (go_at_call 23; (with_reducible refine (adler_Roll.calls a0 a2 a3 a4 t152 _ A9.out).mono ?_); rintro e w15 ⟨rfl, hb⟩; have n0_ := Aside0.mk (below_step (by repeat (first | (with_reducible first | exact HB.out | apply below_alloc | apply pw_below_drewN | apply below_drew1) | exact HB.out)) hb); clear HB; have HB := n0_; clear n0_; (try clear hb); (try clear hb2); (try clear hk); (try clear hi)) | (go_at_call 25; (with_reducible refine (baileyref05_Roll.calls a0 a2 a3 a4 t153 _ A10.out).mono ?_); rintro e w16 ⟨rfl, hb⟩; have n0_ := Aside0.mk (below_step (by repeat (first | (with_reducible first | exact HB.out | apply below_alloc | apply pw_below_drewN | apply below_drew1) | exact HB.out)) hb); clear HB; have HB := n0_; clear n0_; (try clear hb); (try clear hb2); (try clear hk); (try clear hi)) | (go_at_call 13; (with_reducible refine (baileylaw05_awake.calls k  t154 _ A12.out).mono ?_); rintro e w17 ⟨rfl, hb⟩; have n0_ := Aside0.mk (below_step (by repeat (first | (with_reducible first | exact HB.out | apply below_alloc | apply pw_below_drewN | apply below_drew1) | exact HB.out)) hb); clear HB; have HB := n0_; clear n0_; (try clear hb); (try clear hb2); (try clear hk); (try clear hi)))
      go_ret
      exact ⟨by first | rfl | (simp [errW_none, errW_some] <;> rfl) | (simp [*, errW_none, errW_some] <;> rfl), by repeat (first | (with_reducible first | exact HB.out | apply below_alloc | apply pw_below_drewN | apply below_drew1) | exact HB.out)⟩
    · rw [if_neg c11] at H
      have c11b0 : (t152 == t153) = false := beq_eq_false_iff_ne.mpr c11
      have c11b1 : (t152 != t153) = true := bne_iff_ne.mpr c11
      obtain rfl := Option.some.inj H
      go_enter Try.func9, Try.ntmps9
      go_wp2_with (first | ((with_reducible refine gate_callee (f := 22) rfl ?_); refine goesL_ (some 14) rfl rfl Try.func22 (by kernel_rfl) rfl #[.int .u32 a0, .int .u32 a1, .int .i64 a2] rfl (by (try simp only [List.map_toArray, List.map_cons, List.map_nil]); first | done | rfl | (simp only [List.length_drop, List.length_take]; rfl)) ?_; (with_reducible refine (adler_Join.calls a0 a1 a2 t150 _ A6.out).mono ?_); rintro e w18 ⟨rfl, hb⟩; refine ⟨_, rfl, ?_⟩; have n0_ := Aside0.mk (below_step (by repeat (first | (with_reducible first | exact HB.out | apply below_alloc | apply pw_below_drewN | apply below_drew1) | exact HB.out)) hb); clear HB; have HB := n0_; clear n0_; (try clear hb); (try clear hb2); (try clear hk); (try clear hi)) | ((with_reducible refine gate_callee (f := 24) rfl ?_); refine goesL_ (some 18) rfl rfl Try.func24 (by kernel_rfl) rfl #[.int .u32 a0, .int .u32 a1, .int .i64 a2] rfl (by (try simp only [List.map_toArray, List.map_cons, List.map_nil]); first | done | rfl | (simp only [List.length_drop, List.length_take]; rfl)) ?_; (with_reducible refine (baileyref05_Join.calls a0 a1 a2 t151 _ A7.out).mono ?_); rintro e w19 ⟨rfl, hb⟩; refine ⟨_, rfl, ?_⟩; have n0_ := Aside0.mk (below_step (by repeat (first | (with_reducible first | exact HB.out | apply below_alloc | apply pw_below_drewN | apply below_drew1) | exact HB.out)) hb); clear HB; have HB := n0_; clear n0_; (try clear hb); (try clear hb2); (try clear hk); (try clear hi)) | (go_at_call 23; (with_reducible refine (adler_Roll.calls a0 a2 a3 a4 t152 _ A9.out).mono ?_); rintro e w20 ⟨rfl, hb⟩; have n0_ := Aside0.mk (below_step (by repeat (first | (with_reducible first | exact HB.out | apply below_alloc | apply pw_below_drewN | apply below_drew1) | exact HB.out)) hb); clear HB; have HB := n0_; clear n0_; (try clear hb); (try clear hb2); (try clear hk); (try clear hi)) | (go_at_call 25; (with_reducible refine (baileyref05_Roll.calls a0 a2 a3 a4 t153 _ A10.out).mono ?_); rintro e w21 ⟨rfl, hb⟩; have n0_ := Aside0.mk (below_step (by repeat (first | (with_reducible first | exact HB.out | apply below_alloc | apply pw_below_drewN | apply below_drew1) | exact HB.out)) hb); clear HB; have HB := n0_; clear n0_; (try clear hb); (try clear hb2); (try clear hk); (try clear hi)))
      go_ret
      exact ⟨by first | rfl | (simp [errW_none, errW_some] <;> rfl) | (simp [*, errW_none, errW_some] <;> rfl), by repeat (first | (with_reducible first | exact HB.out | apply below_alloc | apply pw_below_drewN | apply below_drew1) | exact HB.out)⟩
  · rw [if_neg c8] at H
    have c8b0 : (t150 == t151) = false := beq_eq_false_iff_ne.mpr c8
    have c8b1 : (t150 != t151) = true := bne_iff_ne.mpr c8
    obtain rfl := Option.some.inj H
    go_enter Try.func9, Try.ntmps9
    go_wp2_with (first | ((with_reducible refine gate_callee (f := 22) rfl ?_); refine goesL_ (some 14) rfl rfl Try.func22 (by kernel_rfl) rfl #[.int .u32 a0, .int .u32 a1, .int .i64 a2] rfl (by (try simp only [List.map_toArray, List.map_cons, List.map_nil]); first | done | rfl | (simp only [List.length_drop, List.length_take]; rfl)) ?_; (with_reducible refine (adler_Join.calls a0 a1 a2 t150 _ A6.out).mono ?_); rintro e w22 ⟨rfl, hb⟩; refine ⟨_, rfl, ?_⟩; have n0_ := Aside0.mk (below_step (by repeat (first | (with_reducible first | exact HB.out | apply below_alloc | apply pw_below_drewN | apply below_drew1) | exact HB.out)) hb); clear HB; have HB := n0_; clear n0_; (try clear hb); (try clear hb2); (try clear hk); (try clear hi)) | ((with_reducible refine gate_callee (f := 24) rfl ?_); refine goesL_ (some 18) rfl rfl Try.func24 (by kernel_rfl) rfl #[.int .u32 a0, .int .u32 a1, .int .i64 a2] rfl (by (try simp only [List.map_toArray, List.map_cons, List.map_nil]); first | done | rfl | (simp only [List.length_drop, List.length_take]; rfl)) ?_; (with_reducible refine (baileyref05_Join.calls a0 a1 a2 t151 _ A7.out).mono ?_); rintro e w23 ⟨rfl, hb⟩; refine ⟨_, rfl, ?_⟩; have n0_ := Aside0.mk (below_step (by repeat (first | (with_reducible first | exact HB.out | apply below_alloc | apply pw_below_drewN | apply below_drew1) | exact HB.out)) hb); clear HB; have HB := n0_; clear n0_; (try clear hb); (try clear hb2); (try clear hk); (try clear hi)))
    go_ret
    exact ⟨by first | rfl | (simp [errW_none, errW_some] <;> rfl) | (simp [*, errW_none, errW_some] <;> rfl), by repeat (first | (with_reducible first | exact HB.out | apply below_alloc | apply pw_below_drewN | apply below_drew1) | exact HB.out)⟩

/-- THE ONE PURE STATEMENT of baileylaw05_AdlerAny: yours. -/
def baileylaw05_AdlerAny.Pure : Prop := ∀ (a0 : Int) (a1 : Int) (a2 : Int) (a3 : Int) (a4 : Int), (Lit.int .u32 a0).wf = true → (Lit.int .u32 a1).wf = true → (Lit.int .i64 a2).wf = true → (Lit.int .u8 a3).wf = true → (Lit.int .u8 a4).wf = true → ∃ k, baileylaw05_AdlerAny.f k a0 a1 a2 a3 a4 = some true
theorem baileylaw05_AdlerAny.walk (P : baileylaw05_AdlerAny.Pure) (a0 : Int) (a1 : Int) (a2 : Int) (a3 : Int) (a4 : Int) (w : World) (w0 : (Lit.int .u32 a0).wf = true) (w1 : (Lit.int .u32 a1).wf = true) (w2 : (Lit.int .i64 a2).wf = true) (w3 : (Lit.int .u8 a3).wf = true) (w4 : (Lit.int .u8 a4).wf = true) :
    Calls Try.prog 9 #[.int .u32 a0, .int .u32 a1, .int .i64 a2, .int .u8 a3, .int .u8 a4] w fun e w' => e = .returned (.bool true) ∧ Below w.heap.size w w' := by
  obtain ⟨k, h⟩ := P a0 a1 a2 a3 a4 w0 w1 w2 w3 w4
  refine (baileylaw05_AdlerAny.calls k a0 a1 a2 a3 a4 true w h).mono ?_
  rintro e w' ⟨rfl, hd⟩
  exact ⟨rfl, hd⟩

end Go.Proofs.Ytpolglgfbfjcoaa.OAdlerAny
