/- One part of the proofs about layer 2: bytes copied, room, and the reader of pack. No condition.
   (Lines that the kit's print wrote for this claim, and walks of ours, as one text of our own: not a printed one.) -/
import Derived.Test.YtagpdfekeppbgaaProg
import Derived.Below
import Derived.Deep.Draws
import Derived.Deep.AppendLies
import Derived.Maps.AppendAt
import Derived.OwnWalk
import Derived.Laws.BytesArg
import Derived.Laws.MakeOwn
import Derived.Laws.OwnMore
import Derived.Deep.OwnRows
import Derived.Tactics
import Derived.Lib.ConvBytes
import Derived.Laws.Slices
import Derived.WalkKit
import Derived.KernelRfl
import Derived.RowKit3
import Derived.Deep.LoopGhost
import Derived.Deep.QuietTactic
import Derived.BigQuiet
import Derived.WideLaws
import Derived.Deep.DeepCutAuto
import Derived.Deep.CutBlock
import Derived.Deep.RegionHeld3
import Derived.Laws.Rows
import Derived.Lib.AppendStr
import Derived.ArgAppend
import Derived.Laws.IdiomCopy
import Derived.OrdersHeld
import Derived.Laws.BitsLemmas
import Derived.RowKit
import Derived.Test.YtagpdfekeppbgaaWWords
import Derived.Test.YtagpdfekeppbgaaWLast
import Derived.Test.YtagpdfekeppbgaaWTab
import Derived.Test.YtagpdfekeppbgaaWFour
import Derived.Test.YtagpdfekeppbgaaWQPut
import Derived.Test.YtagpdfekeppbgaaWApart
import Derived.Test.YtagpdfekeppbgaaWArr
import Derived.Test.YtagpdfekeppbgaaWZeros
import Derived.Test.YtagpdfekeppbgaaWFoot
import Derived.Test.YtagpdfekeppbgaaWKept
import Derived.Test.YtagpdfekeppbgaaWShare
import Derived.Test.YtagpdfekeppbgaaWN
import Derived.Test.YtagpdfekeppbgaaWFootNe
import Derived.Test.YtagpdfekeppbgaaWAt
import Derived.Test.YtagpdfekeppbgaaWEqStruct
import Derived.Test.YtagpdfekeppbgaaWRepsOne
import Derived.Test.YtagpdfekeppbgaaWInv
import Derived.Test.YtagpdfekeppbgaaWInvWords
import Derived.Test.YtagpdfekeppbgaaWGuard
import Derived.Test.YtagpdfekeppbgaaWNEv
import Derived.Test.YtagpdfekeppbgaaWMore
import Derived.WalkSpells
import Derived.Outline
import Derived.Laws.CopyOwn
import Derived.Lib.SlBytesConst
namespace Go.Proofs.Ytagpdfekeppbgaa.X
open Go.RowKit Go.Proofs.YtagpdfekeppbgaaW.PrintWords Go.Proofs.YtagpdfekeppbgaaW.PrintLast Go.Proofs.YtagpdfekeppbgaaW.PrintMore
attribute [local go_sem] max2_int min2_int max_two min_two max_three min_three max_four min_four
set_option linter.unusedVariables false
set_option linter.unusedSimpArgs false
theorem info5 : (Try.prog.info? 5).map (fun i => (i.zero, i.size, i.bytes)) = some (some (.int .u8 0), 1, 1) := by kernel_rfl
theorem R_empty {α : Type} (d : Kd α) (W : World) (e : TypeId) (base : Nat) (hb : base ≤ W.heap.size) : d.R e (W.alloc (.cells #[] e)) base (fun _ => True) (.slice (some ⟨W.heap.size, 0, none⟩) 0 0) [] :=
  ⟨fun _ _ => trivial, OwnRow.lit (ps := []) W base (Reps.none _ _) hb (by simp)⟩
def Clone.f (l0 : List Int) : Option (List Int) := if l0.length < 140737488355328 then some l0 else none
set_option maxHeartbeats 400000 in
theorem Clone.calls (A0 : Option Addr) (c0 : Nat) (l0 : List Int) (r : List Int) (w : World) (hr0 : Kd.C (Kd.int .u8) w A0 l0.length l0) (hc0 : l0.length ≤ c0) (h : Clone.f l0 = some r) :
    Calls Try.prog 17 #[.slice A0 l0.length c0] w fun e w' => ∃ v0_ : Value, e = .returned (v0_) ∧ Kd.R (Kd.int .u8) 5 w' w.heap.size (fun _ => True) v0_ r ∧ Below w.heap.size w w' := by
  have HR := Aside0.mk hr0
  clear hr0
  unfold Clone.f at h
  have hl : l0.length < 140737488355328 := by
    by_cases hh : l0.length < 140737488355328
    · exact hh
    · rw [if_neg hh] at h; simp at h
  rw [if_pos hl] at h
  obtain rfl := Option.some.inj h
  have HL := Aside0.mk hl
  clear hl h
  cases A0 with
  | none =>
    have hz : l0 = [] := by
      have h2 := HR.out.2.2
      by_cases hp : 0 < l0.length
      · obtain ⟨ad, e, _⟩ := h2 hp; cases e
      · exact List.eq_nil_of_length_eq_zero (by omega)
    subst hz
    have kn := fun (w : World) (a : Option Addr) (n c n' c' : Nat) => Lib.run_eql_slice_nil (P := Try.prog) w 22 5 a n c n' c' Try.underlying22
    go_enter Try.func17, Try.ntmps17
    go_wp2
    go_ret
    exact ⟨_, rfl, Kd.R_nil _ _ _ _ _, Below.refl _ _⟩
  | some ad =>
    have kn := fun (w : World) (a : Option Addr) (n c n' c' : Nat) => Lib.run_eql_slice_nil (P := Try.prog) w 22 5 a n c n' c' Try.underlying22
    go_enter Try.func17, Try.ntmps17
    go_wp2_with (at_builtin; refine Kd.R_append_rows (Kd.int .u8) (w0 := w) w.heap.size ?hg (.tmp 5) (.tmp 6) 22 5 (.int .u8 0) 1 ?ho Try.underlying22 info5 rfl (by decide) (by decide) (.slice (some ⟨w.heap.size, 0, none⟩) 0 0) [] l0 (some ad) l0.length c0 (fun _ => True) (fun _ => False) ?hs ?hx (R_empty _ w 5 w.heap.size (Nat.le_refl _)) (Kd.C_alloc HR.out _) ?hKM ?hokp (fun _ _ => trivial) (below_alloc (Below.refl _ _) _) (by simp) ?hl ?hh; (case hg => rfl); (case ho => rfl); (case hs => rfl); (case hx => rfl); (case hKM => exact fun _ _ h => h); (case hokp => exact fun _ h => h.elim); (case hl => have := HL.out; simp; omega); intro v1 w1 HO hb hg hat)
    go_ret
    exact ⟨_, rfl, HO, hb⟩


theorem nums_at {k : IntKind} {w : World} {A : Option Addr} {n : Nat} {xs : List Int} (h : Kd.C (Kd.int k) w A n xs) (hp : 0 < n) : ∃ ad, A = some ad ∧ ∀ j v, (nums k xs)[j]? = some v → w.cell? (ad.add j) = some v := by
  have h' := Kd.reads_of_C (d := (0 : Int)) h
  obtain ⟨ad, e, hc⟩ := h'.2.2 hp
  refine ⟨ad, e, fun j v hv => ?_⟩
  have hl : j < xs.length := by
    have := (List.getElem?_eq_some_iff.1 hv).1
    simpa [nums] using this
  have h2 := hc j (by have := h'.1; omega)
  rw [h2]
  simp [nums, List.getElem?_eq_getElem hl] at hv
  simp [List.getD_eq_getElem?_getD, List.getElem?_eq_getElem hl, hv]
theorem room_inv {l : Nat} {a : Int} {α : Type} {x r : α} (h : (if 0 ≤ a then (if (l : Int) + a ≤ 140737488355328 then some x else none) else none) = some r) : 0 ≤ a ∧ (l : Int) + a ≤ 140737488355328 ∧ x = r := by
  by_cases h0 : 0 ≤ a
  · rw [if_pos h0] at h
    by_cases h1 : (l : Int) + a ≤ 140737488355328
    · rw [if_pos h1] at h; exact ⟨h0, h1, Option.some.inj h⟩
    · rw [if_neg h1] at h; cases h
  · rw [if_neg h0] at h; cases h
def room.f (l0 : List Int) (a1 : Int) : Option (List Int) := if 0 ≤ a1 then (if (l0.length : Int) + a1 ≤ 140737488355328 then some l0 else none) else none
set_option maxHeartbeats 400000 in
theorem room.calls (A0 : Option Addr) (c0 : Nat) (l0 : List Int) (a1 : Int) (r : List Int) (w : World) (hr0 : Kd.C (Kd.int .u8) w A0 l0.length l0) (hc0 : l0.length ≤ c0) (h : room.f l0 a1 = some r) :
    Calls Try.prog 52 #[.slice A0 l0.length c0, .int .i64 a1] w fun e w' => ∃ v0_ : Value, e = .returned (v0_) ∧ Kd.R (Kd.int .u8) 5 w' w.heap.size (fun _ => True) v0_ r ∧ Below w.heap.size w w' := by
  have HR := Aside0.mk hr0
  clear hr0
  obtain ⟨ha, hb, rfl⟩ := room_inv h
  clear h
  obtain ⟨m, rfl⟩ := Int.eq_ofNat_of_zero_le ha
  have hb2 : l0.length + m ≤ 140737488355328 := by omega
  obtain ⟨i0, hi, hzz⟩ := Option.map_eq_some_iff.1 info5
  simp only [Prod.mk.injEq] at hzz
  obtain ⟨hz0, hz1, hz2⟩ := hzz
  have hmk : ∀ w : World, (Instr.makeSlice 22 (.int .i64 (l0.length : Int)) (.int .i64 ((l0.length : Int) + m))).run Try.prog w = .ok (.slice (some ⟨w.heap.size, 0, none⟩) l0.length (l0.length + m)) (w.alloc (.cells (List.replicate (l0.length + m) (Value.int .u8 0)).toArray 5)) := by
    intro w
    have h2 := run_make (P := Try.prog) w 22 5 i0 (.int .u8 0) Try.underlying22 hi hz0 .i64 .i64 (l0.length : Int) ((l0.length : Int) + m) (by omega) (by omega) (by rw [hz2]; omega) (by omega)
    rw [h2, hz1]
    have e1 : ((l0.length : Int) + m).toNat = l0.length + m := by omega
    rw [e1, Int.toNat_natCast, Nat.mul_one]
    congr 3
    apply Array.ext
    · simp [madeCells]
    · intro j h1 h2; simp [madeCells, Value.cells] at *
      simp [Nat.mod_one]
  have HB := Aside0.mk (⟨hb2, hb⟩ : l0.length + m ≤ 140737488355328 ∧ (l0.length : Int) + m ≤ 140737488355328)
  clear hb2 hb ha hi hz0 hz1 hz2
  have hlt : (l0.length : Int) + m ≤ 140737488355328 := HB.out.2
  go_enter Try.func52, Try.ntmps52
  go_wp2_with (with_reducible refine wpList_copy_splice rfl (.tmp 13) (.tmp 14) 22 22 rfl 5 Try.underlying22 (by kernel_rfl) (some ⟨w.heap.size, 0, none⟩) A0 l0.length (l0.length + m) l0.length c0 rfl rfl w.heap.size 0 (List.replicate (l0.length + m) (Value.int .u8 0)) 5 ?hg (nums .u8 l0) ?hn ?hpos ?hfit ?h1 w.heap.size w ?hb (Nat.le_refl _) ?hh)
  case hg => exact heap_alloc_new w _
  case hn => rw [nums_length]; exact (Nat.min_self _).symm
  case hpos =>
    intro hp
    obtain ⟨ad, e, hc⟩ := nums_at HR.out (by first | exact hp | (rw [nums_length] at hp; exact hp))
    have hq := fun j v hv => pw_cell_below (below_alloc (Below.refl w.heap.size w) (.cells (List.replicate (l0.length + m) (Value.int .u8 0)).toArray 5)) (hc j v hv)
    first | exact ⟨rfl, ad, e, hq⟩ | exact ⟨ad, e, hq⟩
  case hfit => rw [nums_length]; simp
  case h1 => intro v hv; simp only [nums, List.mem_map] at hv; obtain ⟨x, _, rfl⟩ := hv; rfl
  case hb => exact below_alloc (Below.refl w.heap.size w) _
  intro w1 hg1 hb1
  go_wp2
  go_ret
  refine ⟨_, rfl, Kd.R_of_own ⟨by simp [encs], .inr ⟨w.heap.size, l0.length + m, _, rfl, Nat.le_refl _, hg1.out, by omega, by unfold maxLen; have := HB.out.1; omega, ?_, ?_⟩⟩ (fun _ _ => trivial), hb1⟩
  · simp [splice, nums]
  · simp [splice, nums, encs]


/-- The block k of W is a row of bytes. -/
def U8 (W : World) (k : Nat) : Prop := ∃ cur fr, W.heap[k]? = some (.cells cur 5 fr)
/-- What is left of bytes for a reader: from a place on; nothing behind an error. -/
def rdRest (f0 : List Int) (f1 f2 : Int) : List Int := if f2 = 0 then f0.drop f1.toNat else []
/-- A reader at block g of W. -/
def IsS40 (w0 W : World) (g : Nat) (f0 : List Int) (f1 f2 : Int) : Prop :=
  ∃ A c, W.heap[g]? = some (.cells #[.slice A (rdRest f0 f1 f2).length c, .int .i64 f2, .bool true] 40 (0, 0)) ∧ w0.heap.size ≤ g ∧ (rdRest f0 f1 f2).length ≤ c ∧
    Kd.F (Kd.int .u8) W (U8 W) A (rdRest f0 f1 f2).length (rdRest f0 f1 f2) ∧ 0 ≤ f1 ∧ f1 ≤ f0.length
theorem IsS40.drewN {w0 W : World} {g : Nat} {f0 : List Int} {f1 f2 : Int} (h : IsS40 w0 W g f0 f1 f2) (m : Nat) : IsS40 w0 (W.drewN m) g f0 f1 f2 := by
  obtain ⟨A, c, hb, hg, hc, hF, h0, h1⟩ := h
  exact ⟨A, c, hb, hg, hc, Kd.F_drewN hF m, h0, h1⟩
/-- The reader stays where its block and all rows of bytes stay. -/
theorem IsS40.keep {w0 W W1 : World} {g : Nat} {f0 : List Int} {f1 f2 : Int} (h : IsS40 w0 W g f0 f1 f2) (hg : W1.heap[g]? = W.heap[g]?) (hu : ∀ k, U8 W k → W1.heap[k]? = W.heap[k]?) : IsS40 w0 W1 g f0 f1 f2 := by
  obtain ⟨A, c, hb, hge, hc, hF, h0, h1⟩ := h
  refine ⟨A, c, hg.trans hb, hge, hc, ?_, h0, h1⟩
  exact Kd.F_mono (Kd.F_step hF (fun k hk _ => hu k hk)) (fun k hk => by obtain ⟨cur, fr, e⟩ := hk; exact ⟨cur, fr, (hu k ⟨cur, fr, e⟩).trans e⟩)
theorem U8.ne {W : World} {g k t : Nat} {cs : Array Value} {fr : Nat × Nat} (hk : U8 W k) (hb : W.heap[g]? = some (.cells cs t fr)) (ht : t ≠ 5) : k ≠ g := by
  rintro rfl
  obtain ⟨cur, fr', e⟩ := hk
  rw [hb] at e
  injection e with e
  injection e with _ e2
  exact ht e2
theorem IsS40.below {w0 W W1 : World} {g : Nat} {f0 : List Int} {f1 f2 : Int} (h : IsS40 w0 W g f0 f1 f2) (hw : Below W.heap.size W W1) : IsS40 w0 W1 g f0 f1 f2 := by
  have hlt : g < W.heap.size := by obtain ⟨A, c, hb, _⟩ := h; exact blk_lt hb
  exact h.keep (hw.block g hlt) (fun k hk => by obtain ⟨cur, fr, e⟩ := hk; exact hw.block k (blk_lt e))
set_option maxHeartbeats 400000 in
theorem pack_Reader_works.calls (g : Nat) (f0 : List Int) (f1 f2 : Int) (w0 w : World) (hI : IsS40 w0 w g f0 f1 f2) :
    Calls Try.prog 55 #[.pointer (some ⟨g, 0, none⟩)] w fun e w' => e = .returned (.bool (f2 == 0)) ∧ ∃ n, w' = w.drewN n := by
  obtain ⟨A, c, hb, _⟩ := hI
  have c1 : w.cell? ⟨g, 1, none⟩ = some (.int .i64 f2) := blk_cell hb 1
  have c2 : w.cell? ⟨g, 2, none⟩ = some (.bool true) := blk_cell hb 2
  clear hb
  go_enter Try.func55, Try.ntmps55
  go_wp2
  go_ret
  exact ⟨rfl, 0, rfl⟩

theorem IsS40.kb {w0 w w' : World} {g g' : Nat} {f0 : List Int} {f1 f2 : Int} (h : IsS40 w0 w g f0 f1 f2) (hk : KeepBut w w' g' none) (hne : g ≠ g') (ht : ∃ cs t fr, w.heap[g']? = some (.cells cs t fr) ∧ t ≠ 5) : IsS40 w0 w' g f0 f1 f2 := by
  have hlt : g < w.heap.size := by obtain ⟨A, c, hb, _⟩ := h; exact blk_lt hb
  obtain ⟨cs, t, fr, hb', ht'⟩ := ht
  exact h.keep (hk.2 g hlt hne (by simp)) (fun k hk2 => hk.2 k (by obtain ⟨_, _, e⟩ := hk2; exact blk_lt e) (U8.ne hk2 hb' ht') (by simp))
def pack_Reader_Fail.f (f0 : List Int) (f1 f2 e : Int) : Option (Int × Int) := some (f1, if f2 = 0 then e else f2)
set_option maxHeartbeats 400000 in
theorem pack_Reader_Fail.calls (g : Nat) (f0 : List Int) (f1 f2 a1 : Int) (r1 r2 : Int) (w0 w : World) (hI : IsS40 w0 w g f0 f1 f2) (hB : Below w0.heap.size w0 w) (h : pack_Reader_Fail.f f0 f1 f2 a1 = some (r1, r2)) :
    Calls Try.prog 30 #[.pointer (some ⟨g, 0, none⟩), .int .i64 a1] w fun e w' => e = .returned (.tuple #[]) ∧ IsS40 w0 w' g f0 r1 r2 ∧ Below w0.heap.size w0 w' ∧ KeepBut w w' g none := by
  unfold pack_Reader_Fail.f at h
  simp only [Option.some.injEq, Prod.mk.injEq] at h
  obtain ⟨rfl, rfl⟩ := h
  have HI := Aside0.mk hI
  have HB := Aside0.mk hB
  by_cases h2 : f2 = 0
  · subst h2
    by_cases he : a1 = 0
    · subst he
      clear hI hB
      go_enter Try.func30, Try.ntmps30
      go_wp2_with (go_at_call 55; refine (pack_Reader_works.calls g f0 f1 0 w0 _ HI.out).mono ?_; rintro e w1 ⟨rfl, n, rfl⟩)
      first | go_end0 | ((try simp only [Exit.inBlock, Exit.then]); refine bodyPost_ret (results_none rfl _ _ _) rfl ?_)
      exact ⟨rfl, HI.out.drewN _, pw_below_drewN HB.out _, KeepBut.of_below (pw_below_drewN (Below.refl _ _) _) g none⟩
    · have he1 : (a1 == 0) = false := beq_eq_false_iff_ne.mpr he
      clear hB
      obtain ⟨A, c, hb, hge, hc, hF, h0, h1⟩ := hI
      have hb' := fun n => (show (w.drewN n).heap[g]? = _ from hb)
      have f1' : ∀ n, (w.drewN n).frozen? ⟨g, 1, none⟩ = false := fun n => blk_frozen (hb' n) 1
      have c1' : ∀ n, (w.drewN n).cell? ⟨g, 1, none⟩ = some (.int .i64 0) := fun n => blk_cell (hb' n) 1
      have c0' : ∀ n, (w.drewN n).cell? ⟨g, 0, none⟩ = some (.slice A (rdRest f0 f1 0).length c) := fun n => blk_cell (hb' n) 0
      have f0' : ∀ n, (w.drewN n).frozen? ⟨g, 0, none⟩ = false := fun n => blk_frozen (hb' n) 0
      have X := Aside0.mk (show w.heap[g]? = _ from hb)
      have HF := Aside0.mk hF
      clear hb hb' hF
      have HE := Aside0.mk he
      clear he
      go_enter Try.func30, Try.ntmps30
      go_wp2_with (go_at_call 55; refine (pack_Reader_works.calls g f0 f1 0 w0 _ HI.out).mono ?_; rintro e w1 ⟨rfl, n, rfl⟩)
      first | go_end0 | ((try simp only [Exit.inBlock, Exit.then]); refine bodyPost_ret (results_none rfl _ _ _) rfl ?_)
      have X1 := blk_set (blk_set (show (w.drewN n).heap[g]? = _ from X.out) 1 (.int .i64 a1)) 0 (.slice none 0 0)
      have hu : ∀ k, k < w.heap.size → k ≠ g → (((w.drewN n).setCell ⟨g, 1, none⟩ (.int .i64 a1)).setCell ⟨g, 0, none⟩ (.slice none 0 0)).heap[k]? = w.heap[k]? := fun k hk hne => by
        rw [Below.heap_setCell _ _ _ k hne, Below.heap_setCell _ _ _ k hne]; rfl
      have hz : rdRest f0 f1 a1 = [] := by unfold rdRest; rw [if_neg HE.out]
      refine ⟨rfl, ⟨none, 0, ?_, hge, ?_, ?_, h0, h1⟩, ?_, ?_⟩
      · rw [X1, hz]; simp
      · rw [hz]; simp
      · rw [hz]; exact Kd.F_nil _ _ _
      · exact below_set (below_set (pw_below_drewN HB.out n) hge) hge
      · exact KeepBut.set_ (KeepBut.set_ (KeepBut.of_below (pw_below_drewN (Below.refl _ _) _) g none) _ _) _ _
  · have hf : (f2 == 0) = false := beq_eq_false_iff_ne.mpr h2
    have hf2 : (f2 != 0) = true := bne_iff_ne.mpr h2
    have HE := Aside0.mk h2
    clear hI hB
    go_enter Try.func30, Try.ntmps30
    go_wp2_with (go_at_call 55; refine (pack_Reader_works.calls g f0 f1 f2 w0 _ HI.out).mono ?_; rintro e w1 ⟨rfl, n, rfl⟩)
    first | go_end0 | ((try simp only [Exit.inBlock, Exit.then]); refine bodyPost_ret (results_none rfl _ _ _) rfl ?_)
    exact ⟨rfl, by first | exact HI.out.drewN _ | (rw [if_neg HE.out]; exact HI.out.drewN _), pw_below_drewN HB.out _, KeepBut.of_below (pw_below_drewN (Below.refl _ _) _) g none⟩
theorem F8_drop {W : World} {ok : Nat → Prop} {A : Option Addr} {n c : Nat} {xs : List Int} (h : Kd.F (Kd.int .u8) W ok A n xs) (m : Nat) (hm : m ≤ n) (hc : n ≤ c) :
    Kd.F (Kd.int .u8) W ok (if c = m then A else A.map (·.add m)) (n - m) (xs.drop m) := Kd.F_imp h (fun W' hC => Kd.C_of_reads (d := (0 : Int)) ((Kd.reads_of_C hC).drop_ m hm hc))
theorem F8_take {W : World} {ok : Nat → Prop} {A : Option Addr} {n : Nat} {xs : List Int} (h : Kd.F (Kd.int .u8) W ok A n xs) (m : Nat) (hm : m ≤ n) :
    Kd.F (Kd.int .u8) W ok A m (xs.take m) := Kd.F_imp h (fun W' hC => Kd.C_of_reads (d := (0 : Int)) ((Kd.reads_of_C hC).take_ m hm))
/-- A row of bytes, behind a store into a block that is none. -/
theorem F8_far {W W1 : World} {A : Option Addr} {n : Nat} {xs : List Int} (h : Kd.F (Kd.int .u8) W (U8 W) A n xs) (hu : ∀ k, U8 W k → W1.heap[k]? = W.heap[k]?) : Kd.F (Kd.int .u8) W1 (U8 W1) A n xs :=
  Kd.F_mono (Kd.F_step h (fun k hk _ => hu k hk)) (fun k hk => by obtain ⟨cur, fr, e⟩ := hk; exact ⟨cur, fr, (hu k ⟨cur, fr, e⟩).trans e⟩)

/-- The first bytes of those that are left, taken off. -/
theorem rdRest_take {f0 : List Int} {f1 f2 n : Int} (h0 : 0 ≤ f1) (hn : 0 ≤ n) : (rdRest f0 f1 f2).drop n.toNat = rdRest f0 (f1 + n) f2 := by
  unfold rdRest
  by_cases h : f2 = 0
  · rw [if_pos h, if_pos h, List.drop_drop]
    congr 1; omega
  · rw [if_neg h, if_neg h]; simp
theorem take_close {w0 w : World} {g : Nat} {f0 R : List Int} {f1 f2 : Int} {A : Option Addr} {c m : Nat} (hb : w.heap[g]? = some (.cells #[.slice A R.length c, .int .i64 f2, .bool true] 40 (0, 0))) (hge : w0.heap.size ≤ g)
    (hF : Kd.F (Kd.int .u8) w (U8 w) A R.length R) (h0 : 0 ≤ f1) (h1 : f1 ≤ f0.length) (hR : rdRest f0 f1 f2 = R) (hm : m ≤ R.length) (hc : R.length ≤ c) {A' : Option Addr} {c' : Nat} (hA : A' = if c = m then A else A.map (·.add m)) (hc' : c' = c - m) :
    IsS40 w0 (w.setCell ⟨g, 0, none⟩ (.slice A' (R.length - m) c')) g f0 (f1 + (m : Int)) f2 := by
  have hr2 : rdRest f0 (f1 + (m : Int)) f2 = R.drop m := by
    have := rdRest_take (f0 := f0) (f1 := f1) (f2 := f2) (n := (m : Int)) h0 (by omega)
    rw [hR] at this; rw [← this]; simp
  have hlen : (R.drop m).length = R.length - m := by simp
  have hset : ∀ u k, U8 w k → (w.setCell ⟨g, 0, none⟩ u).heap[k]? = w.heap[k]? := fun u k hk => Below.heap_setCell _ _ _ k (U8.ne hk hb (by decide))
  have hl : R.length ≤ f0.length - f1.toNat := by
    rw [← hR]; unfold rdRest; split <;> simp
  subst hA
  subst hc'
  refine ⟨(if c = m then A else A.map (·.add m)), c - m, ?_, hge, ?_, ?_, by omega, by omega⟩
  · rw [hr2, hlen, blk_set hb]; simp
  · rw [hr2, hlen]; omega
  · rw [hr2, hlen]; exact F8_far (F8_drop hF m hm hc) (hset _)
set_option maxHeartbeats 400000 in
/-- Bytes taken off a reader that has them: they stand as they did, and the reader is one place on. -/
theorem pack_Reader_take.yes (g : Nat) (f0 : List Int) (f1 f2 n : Int) (w0 w : World) (hI : IsS40 w0 w g f0 f1 f2) (hB : Below w0.heap.size w0 w) (hn : 0 ≤ n) (hl : n ≤ ((rdRest f0 f1 f2).length : Int)) :
    Calls Try.prog 56 #[.pointer (some ⟨g, 0, none⟩), .int .i64 n] w fun e w' => ∃ A' c', e = .returned (.slice A' ((rdRest f0 f1 f2).take n.toNat).length c') ∧ ((rdRest f0 f1 f2).take n.toNat).length ≤ c' ∧ Kd.F (Kd.int .u8) w' (U8 w') A' ((rdRest f0 f1 f2).take n.toNat).length ((rdRest f0 f1 f2).take n.toNat) ∧ IsS40 w0 w' g f0 (f1 + n) f2 ∧ Below w0.heap.size w0 w' ∧ KeepBut w w' g none := by
  obtain ⟨A, c, hb, hge, hc, hF, h0, h1⟩ := hI
  obtain ⟨m, rfl⟩ := Int.eq_ofNat_of_zero_le hn
  have c0' : w.cell? ⟨g, 0, none⟩ = some (.slice A (rdRest f0 f1 f2).length c) := blk_cell hb 0
  have f0' : w.frozen? ⟨g, 0, none⟩ = false := blk_frozen hb 0
  have hm : m ≤ (rdRest f0 f1 f2).length := by omega
  have hmb : decide (((rdRest f0 f1 f2).length : Int) < (m : Int)) = false := decide_eq_false (by omega)
  have hmb2 : decide ((rdRest f0 f1 f2).length < m) = false := decide_eq_false (by omega)
  have HB := Aside0.mk hb
  have HF := Aside0.mk hF
  have HBB := Aside0.mk hB
  clear hb hF hB
  generalize hR : rdRest f0 f1 f2 = R at *
  have HR := Aside0.mk hR
  clear hR
  go_enter Try.func56, Try.ntmps56
  go_wp2_with fail
  all_goals
    go_ret
    have hset : ∀ u k, U8 w k → (w.setCell ⟨g, 0, none⟩ u).heap[k]? = w.heap[k]? := fun u k hk => Below.heap_setCell _ _ _ k (U8.ne hk HB.out (by decide))
    refine ⟨A, m, by simp [Nat.min_eq_left hm], by simp [Nat.min_eq_left hm], by simpa [Nat.min_eq_left hm] using F8_far (F8_take HF.out m hm) (hset _), take_close HB.out hge HF.out h0 h1 HR.out hm hc (by simp [*]) (by omega), below_set HBB.out hge, KeepBut.set_ (KeepBut.refl _ _ _) _ _⟩
set_option maxHeartbeats 400000 in
/-- More bytes than a reader has: an error. -/
theorem pack_Reader_take.no (g : Nat) (f0 : List Int) (f1 n : Int) (w0 w : World) (hI : IsS40 w0 w g f0 f1 0) (hB : Below w0.heap.size w0 w) (hl : ((rdRest f0 f1 0).length : Int) < n) :
    Calls Try.prog 56 #[.pointer (some ⟨g, 0, none⟩), .int .i64 n] w fun e w' => e = .returned (.slice none 0 0) ∧ IsS40 w0 w' g f0 f1 4 ∧ Below w0.heap.size w0 w' ∧ KeepBut w w' g none := by
  have HI := Aside0.mk hI
  have HBB := Aside0.mk hB
  obtain ⟨A, c, hb, hge, hc, hF, h0, h1⟩ := hI
  have c0' : w.cell? ⟨g, 0, none⟩ = some (.slice A (rdRest f0 f1 0).length c) := blk_cell hb 0
  clear hb hF hB
  have hmb : decide (((rdRest f0 f1 0).length : Int) < n) = true := decide_eq_true hl
  go_enter Try.func56, Try.ntmps56
  go_wp2_with (go_at_call 30; refine (pack_Reader_Fail.calls g f0 f1 0 4 f1 4 w0 _ HI.out HBB.out rfl).mono ?_; rintro e w1 ⟨rfl, hI1, hB1, hK1⟩)
  go_ret
  exact ⟨rfl, hI1, hB1, hK1⟩


/-- How many bytes the number has that stands ahead; or an error. -/
def numW : Nat → List Int → Int × Int
  | _, [] => (4, 0)
  | i, x :: xs => if (i = 0 ∧ x = 128) ∨ (i = 8 ∧ 128 ≤ x) then (3, 0) else if x < 128 then (0, (i : Int) + 1) else numW (i + 1) xs
theorem rd_dropX (l : List Int) (i : Nat) (h : i < l.length) : l.drop i = rd l (i : Int) :: l.drop (i + 1) := by
  rw [List.drop_eq_getElem_cons h]; congr 1
  simp [rd, List.getD_eq_getElem?_getD, List.getElem?_eq_getElem h]
theorem numW_step {R : List Int} {k : Nat} (h : k < R.length) : numW k (R.drop k) = if (k = 0 ∧ rd R (k : Int) = 128) ∨ (k = 8 ∧ 128 ≤ rd R (k : Int)) then (3, 0) else if rd R (k : Int) < 128 then (0, (k : Int) + 1) else numW (k + 1) (R.drop (k + 1)) := by
  rw [rd_dropX R k h]; rfl
theorem numW_end {R : List Int} {k : Nat} (h : R.length ≤ k) : numW k (R.drop k) = (4, 0) := by
  rw [List.drop_eq_nil_of_le h]; rfl
set_option maxHeartbeats 1000000 in
theorem pack_Reader_width.calls (g : Nat) (f0 : List Int) (f1 : Int) (w0 w : World) (hI : IsS40 w0 w g f0 f1 0) (hB : Below w0.heap.size w0 w) :
    Calls Try.prog 57 #[.pointer (some ⟨g, 0, none⟩)] w fun e w' => e = .returned (.int .i64 (numW 0 (rdRest f0 f1 0)).2) ∧ IsS40 w0 w' g f0 f1 (numW 0 (rdRest f0 f1 0)).1 ∧ Below w0.heap.size w0 w' ∧ KeepBut w w' g none := by
  have HI := Aside0.mk hI
  have HBB := Aside0.mk hB
  obtain ⟨A, c, hb, hge, hc, hF, h0, h1⟩ := hI
  have c0' : w.cell? ⟨g, 0, none⟩ = some (.slice A (rdRest f0 f1 0).length c) := blk_cell hb 0
  have hC := Kd.F_now hF
  have HM := Aside0.mk hC.2.1
  have hm : (rdRest f0 f1 0).length ≤ 9223372036854775807 := hC.2.1
  have HC := Aside0.mk hC
  clear hb hF hB hC h0 h1 hge
  generalize hR : rdRest f0 f1 0 = R at *
  have HR := Aside0.mk hR
  clear hR
  go_enter Try.func57, Try.ntmps57
  go_wp2
  go_loopw [10] (fun i wr => ∃ k : Nat, k ≤ R.length ∧ i = .int .i64 k ∧ Aside0 (numW k (R.drop k) = numW 0 R) ∧ ∃ n, wr = w.drewN n) (fun i _ => R.length - (intOf i).toNat)
  case atStart => exact ⟨0, Nat.zero_le _, rfl, ⟨rfl⟩, 0, rfl⟩
  case round =>
    obtain ⟨k, hk, rfl, HW, n, rfl⟩ := hrel
    by_cases hlt : k < R.length
    · obtain ⟨ad, e1, hcell⟩ := Kd.at_int HC.out (k : Int) (by omega) (by omega)
      cases e1
      rw [Int.toNat_natCast] at hcell
      have hst := numW_step hlt
      rw [HW.out] at hst
      have HST := Aside0.mk hst
      clear hst
      generalize hx : rd R (k : Int) = x at *
      clear hx
      have HF2 : ∀ (p : Int × Int), numW 0 R = p → Aside0 ((numW 0 R).1 = p.1 ∧ (numW 0 R).2 = p.2) := fun p h => ⟨by rw [h]; exact ⟨rfl, rfl⟩⟩
      by_cases hbad : (k = 0 ∧ x = 128) ∨ (k = 8 ∧ 128 ≤ x)
      · have hE := HF2 _ (HST.out.trans (if_pos hbad))
        clear HF2
        rcases hbad with ⟨hz, hx⟩ | ⟨hz, hx⟩
        · subst hz
          subst hx
          have hcell0 : w.cell? ad = some (.int .u8 128) := by simpa [Addr.add] using hcell
          go_wp2_with (go_at_call 30; refine (pack_Reader_Fail.calls g f0 f1 0 3 f1 3 w0 _ (HI.out.drewN _) (pw_below_drewN HBB.out _) rfl).mono ?_; rintro e w1 ⟨rfl, hI1, hB1, hK1⟩)
          go_ret
          exact ⟨by rw [hE.out.2]; rfl, by rw [hE.out.1]; exact hI1, hB1, hK1⟩
        · have hz8 : ((k : Int) == 8) = true := beq_iff_eq.mpr (by omega)
          have hz0 : ((k : Int) == 0) = false := beq_eq_false_iff_ne.mpr (by omega)
          have HZ := Aside0.mk hz
          clear hz
          have hx1 : decide (128 ≤ x) = true := decide_eq_true hx
          go_wp2_with (go_at_call 30; refine (pack_Reader_Fail.calls g f0 f1 0 3 f1 3 w0 _ (HI.out.drewN _) (pw_below_drewN HBB.out _) rfl).mono ?_; rintro e w1 ⟨rfl, hI1, hB1, hK1⟩)
          go_ret
          exact ⟨by rw [hE.out.2]; rfl, by rw [hE.out.1]; exact hI1, hB1, hK1⟩
      · have hst := HST.out.trans (if_neg hbad)
        by_cases hl : x < 128
        · have hE := HF2 _ (hst.trans (if_pos hl))
          clear HF2 hst
          have hl1 : decide (x < 128) = true := decide_eq_true hl
          have hg1 : decide (128 ≤ x) = false := decide_eq_false (by omega)
          have hcell0 : k = 0 → w.cell? ad = some (.int .u8 x) := fun h => by subst h; simpa [Addr.add] using hcell
          have he : (x == 128) = false := beq_eq_false_iff_ne.mpr (by omega)
          by_cases hz : k = 0
          · subst hz
            have hc0 := hcell0 rfl
            clear hcell0
            go_wp2
            go_ret
            exact ⟨by rw [hE.out.2]; rfl, by rw [hE.out.1]; exact HI.out.drewN _, pw_below_drewN HBB.out _, KeepBut.of_below (pw_below_drewN (Below.refl _ _) _) g none⟩
          · have hz1 : ((k : Int) == 0) = false := beq_eq_false_iff_ne.mpr (by omega)
            clear hcell0
            have hz8 : ((k : Int) == 8) = true ∨ ((k : Int) == 8) = false := by cases ((k : Int) == 8) <;> simp
            rcases hz8 with hz8 | hz8
            all_goals
              go_wp2
              go_ret
              exact ⟨by rw [hE.out.2]; rfl, by rw [hE.out.1]; exact HI.out.drewN _, pw_below_drewN HBB.out _, KeepBut.of_below (pw_below_drewN (Below.refl _ _) _) g none⟩
        · have hE := Aside0.mk (hst.trans (if_neg hl)).symm
          clear HF2 hst
          have hl1 : decide (x < 128) = false := decide_eq_false hl
          have hcell0 : k = 0 → w.cell? ad = some (.int .u8 x) := fun h => by subst h; simpa [Addr.add] using hcell
          by_cases hz : k = 0
          · subst hz
            have hc0 := hcell0 rfl
            have he : (x == 128) = false := beq_eq_false_iff_ne.mpr (by rintro rfl; exact hbad (.inl ⟨rfl, rfl⟩))
            clear hcell0
            go_wp2
            go_roundw
            case rel => exact ⟨1, by omega, rfl, hE, _, rfl⟩
            case measure => simp [intOf]; omega
          · have hz1 : ((k : Int) == 0) = false := beq_eq_false_iff_ne.mpr (by omega)
            have hk8 : k ≠ 8 := fun h => hbad (.inr ⟨h, by omega⟩)
            have hz8 : ((k : Int) == 8) = false := beq_eq_false_iff_ne.mpr (by omega)
            clear hcell0
            go_wp2
            go_roundw
            case rel => exact ⟨k + 1, by omega, by go_num, hE, _, rfl⟩
            case measure => simp [intOf]; omega
    · have hE := Aside0.mk (HW.out.symm.trans (numW_end (by omega)))
      go_wp2_with (go_at_call 30; refine (pack_Reader_Fail.calls g f0 f1 0 4 f1 4 w0 _ (HI.out.drewN _) (pw_below_drewN HBB.out _) rfl).mono ?_; rintro e w1 ⟨rfl, hI1, hB1, hK1⟩)
      go_ret
      exact ⟨by rw [hE.out]; rfl, by rw [hE.out]; exact hI1, hB1, hK1⟩


theorem numW_le : ∀ (l : List Int) (i : Nat), i ≤ 8 → (numW i l).1 = 0 → (i : Int) < (numW i l).2 ∧ (numW i l).2 ≤ 9 ∧ (numW i l).2 ≤ (i : Int) + l.length := by
  intro l
  induction l with
  | nil => intro i _ h; simp [numW] at h
  | cons x xs ih =>
    intro i hi h
    simp only [numW] at h ⊢
    by_cases hb : (i = 0 ∧ x = 128) ∨ (i = 8 ∧ 128 ≤ x)
    · rw [if_pos hb] at h; simp at h
    · rw [if_neg hb] at h ⊢
      by_cases hl : x < 128
      · rw [if_pos hl]; simp; omega
      · rw [if_neg hl] at h ⊢
        have h8 : i ≠ 8 := fun e => hb (.inr ⟨e, by omega⟩)
        have := ih (i + 1) (by omega) h
        simp only [List.length_cons]
        omega
theorem numW_err : ∀ (l : List Int) (i : Nat), (numW i l).1 = 0 ∨ ((numW i l).1 = 3 ∨ (numW i l).1 = 4) ∧ (numW i l).2 = 0 := by
  intro l
  induction l with
  | nil => intro i; right; exact ⟨.inr rfl, rfl⟩
  | cons x xs ih =>
    intro i
    simp only [numW]
    split
    · right; exact ⟨.inl rfl, rfl⟩
    · split
      · left; rfl
      · exact ih (i + 1)
/-- The number that bytes are, seven bits each. -/
def numV (l : List Int) : Int := l.foldl (fun n x => n * 128 + x % 128) 0
theorem numV_snoc (l : List Int) (x : Int) : numV (l ++ [x]) = numV l * 128 + x % 128 := by simp [numV]
theorem numV_from (l : List Int) : ∀ a : Int, 0 ≤ a → 0 ≤ l.foldl (fun n x => n * 128 + x % 128) a ∧ l.foldl (fun n x => n * 128 + x % 128) a < (a + 1) * 128 ^ l.length := by
  induction l with
  | nil => intro a ha; simp; omega
  | cons x xs ih =>
    intro a ha
    have := ih (a * 128 + x % 128) (by omega)
    have hp : (0 : Int) ≤ 128 ^ xs.length := Int.pow_nonneg (by decide)
    have hm := Int.mul_le_mul_of_nonneg_right (show a * 128 + x % 128 + 1 ≤ (a + 1) * 128 by omega) hp
    simp only [List.foldl_cons, List.length_cons, Int.pow_succ]
    refine ⟨this.1, Int.lt_of_lt_of_le this.2 ?_⟩
    rw [Int.mul_comm ((128 : Int) ^ xs.length) 128, ← Int.mul_assoc]
    exact hm
theorem numV_bd (l : List Int) : 0 ≤ numV l ∧ numV l < 128 ^ l.length := by
  have := numV_from l 0 (by omega)
  simpa [numV] using this
theorem numV_small (l : List Int) (h : l.length ≤ 8) : 0 ≤ numV l ∧ numV l < 72057594037927936 := by
  have h1 := numV_bd l
  have h2 : (128 : Int) ^ l.length ≤ 128 ^ 8 := by
    have : (128 : Nat) ^ l.length ≤ 128 ^ 8 := Nat.pow_le_pow_right (by decide) h
    exact_mod_cast this
  have h3 : (128 : Int) ^ 8 = 72057594037927936 := by decide
  omega
theorem numV_take (T : List Int) (j : Nat) (h : j < T.length) : numV (T.take (j + 1)) = numV (T.take j) * 128 + rd T (j : Int) % 128 := by
  rw [List.take_succ_eq_append_getElem h, numV_snoc]
  simp [rd, List.getD_eq_getElem?_getD, List.getElem?_eq_getElem h]
theorem andNot8 (x : Int) : Go.bits .andNot .u8 x 128 = x % 128 := by
  have e : Go.bits .andNot .u8 x 128 = Go.bits .andNot .u8 (x % 256) 128 := by
    have h : BitVec.ofInt 8 x = BitVec.ofInt 8 (x % 256) := by
      apply BitVec.eq_of_toNat_eq
      simp
    show IntKind.u8.wrap ((BitVec.ofInt 8 x &&& ~~~BitVec.ofInt 8 128).toNat : Int) = IntKind.u8.wrap ((BitVec.ofInt 8 (x % 256) &&& ~~~BitVec.ofInt 8 128).toNat : Int)
    rw [h]
  rw [e]
  obtain ⟨n, hn⟩ := Int.eq_ofNat_of_zero_le (show 0 ≤ x % 256 by omega)
  have key : ∀ m : Fin 256, Go.bits .andNot .u8 ((m.val : Nat) : Int) 128 = ((m.val : Nat) : Int) % 128 := by decide +kernel
  have := key ⟨n, by omega⟩
  rw [hn]
  simp only at this
  rw [this]; omega
theorem or7' (n y : Int) (h0 : 0 ≤ n) (h1 : n < 72057594037927936) (hy0 : 0 ≤ y) (hy1 : y < 128) : Go.bits .or .i64 (n * 128) y = n * 128 + y :=
  Go.bits_join .i64 63 (by decide) (fun n h0 h1 => by rw [Go.IntKind.wrap_i64]; omega) 7 (n * 128) y (by omega) (by omega) (by omega) hy0 (by omega) (by omega)
theorem num_step (v x : Int) (h : 0 ≤ v ∧ v < 72057594037927936) : Go.bits .or .i64 (v * 128) (wrap64 (Go.bits .andNot .u8 x 128)) = v * 128 + x % 128 := by
  rw [andNot8]
  have : wrap64 (x % 128) = x % 128 := by unfold wrap64; omega
  rw [this, or7' v (x % 128) h.1 h.2 (by omega) (by omega)]
/-- What a reader reads as a number of what is left: it, how many bytes it has; or an error. -/
def rdNum (rest : List Int) (most : Int) : Int × Int × Int :=
  if (numW 0 rest).1 = 0 then (if most < numV (rest.take (numW 0 rest).2.toNat) then (0, 0, 5) else (numV (rest.take (numW 0 rest).2.toNat), (numW 0 rest).2, 0)) else (0, 0, (numW 0 rest).1)
def pack_Reader_Num.f (f0 : List Int) (f1 f2 most : Int) : Option (Int × Int × Int) :=
  if f2 = 0 then some ((rdNum (rdRest f0 f1 0) most).1, f1 + (rdNum (rdRest f0 f1 0) most).2.1, (rdNum (rdRest f0 f1 0) most).2.2) else some (0, f1, f2)
theorem IsS40.any {w0 W : World} {g : Nat} {f0 : List Int} {f1 f2 p : Int} (h : IsS40 w0 W g f0 f1 f2) (he : f2 ≠ 0) (h0 : 0 ≤ p) (h1 : p ≤ f0.length) : IsS40 w0 W g f0 p f2 := by
  obtain ⟨A, c, hb, hg, hc, hF, _, _⟩ := h
  have e1 : rdRest f0 f1 f2 = [] := by unfold rdRest; rw [if_neg he]
  have e2 : rdRest f0 p f2 = [] := by unfold rdRest; rw [if_neg he]
  rw [e1] at hb hc hF
  exact ⟨A, c, by rw [e2]; exact hb, hg, by rw [e2]; exact hc, by rw [e2]; exact hF, h0, h1⟩
theorem IsS40.pos {w0 W : World} {g : Nat} {f0 : List Int} {f1 f2 : Int} (h : IsS40 w0 W g f0 f1 f2) : 0 ≤ f1 ∧ f1 ≤ f0.length := by
  obtain ⟨A, c, hb, hg, hc, hF, h0, h1⟩ := h
  exact ⟨h0, h1⟩
set_option maxHeartbeats 1000000 in
theorem pack_Reader_Num.calls (g : Nat) (f0 : List Int) (f1 f2 a1 : Int) (r1 r2 r3 : Int) (w0 w : World) (hI : IsS40 w0 w g f0 f1 f2) (hB : Below w0.heap.size w0 w) (h : pack_Reader_Num.f f0 f1 f2 a1 = some (r1, r2, r3)) :
    Calls Try.prog 27 #[.pointer (some ⟨g, 0, none⟩), .int .i64 a1] w fun e w' => e = .returned (.int .i64 r1) ∧ IsS40 w0 w' g f0 r2 r3 ∧ Below w0.heap.size w0 w' ∧ KeepBut w w' g none := by
  have HI := Aside0.mk hI
  have HBB := Aside0.mk hB
  have HH := Aside0.mk h
  have HP := Aside0.mk (show 0 ≤ f1 + 0 ∧ f1 + 0 ≤ (f0.length : Int) by have := hI.pos; omega)
  clear hI hB h
  by_cases h2 : f2 = 0
  · subst h2
    have hf : pack_Reader_Num.f f0 f1 0 a1 = _ := if_pos rfl
    rw [hf] at HH
    clear hf
    rcases numW_err (rdRest f0 f1 0) 0 with hw | ⟨hw, hw2⟩
    · obtain ⟨hk0, hk9, hkl⟩ := numW_le (rdRest f0 f1 0) 0 (by omega) hw
      have HW := Aside0.mk hw
      have HK := Aside0.mk (⟨hk0, hk9, hkl⟩ : _ ∧ _ ∧ _)
      clear hw hk0 hk9 hkl
      go_enter Try.func27, Try.ntmps27
      go_wp2_with (first | (go_at_call 55; refine (pack_Reader_works.calls g f0 f1 0 w0 _ HI.out).mono ?_; rintro e w1 ⟨rfl, n, rfl⟩))
      refine (pack_Reader_width.calls g f0 f1 w0 _ (HI.out.drewN _) (pw_below_drewN HBB.out _)).mono ?_
      rintro e w2 ⟨rfl, hI2, hB2, hK2⟩
      rw [HW.out] at hI2
      have hk0 : 0 ≤ (numW 0 (rdRest f0 f1 0)).2 := by have := HK.out.1; omega
      go_wp2_with fail
      refine (pack_Reader_take.yes g f0 f1 0 (numW 0 (rdRest f0 f1 0)).2 w0 _ hI2 hB2 hk0 (by have := HK.out.2.2; omega)).mono ?_
      rintro e w3 ⟨A', c', rfl, hc', hF3, hI3, hB3, hK3⟩
      have HI3 := Aside0.mk hI3
      have HB3 := Aside0.mk hB3
      have HF3 := Aside0.mk hF3
      have HKK := Aside0.mk ((KeepBut.of_below (pw_below_drewN (Below.refl w.heap.size w) n) g none).trans (hK2.trans hK3 (.inl rfl)) (.inl rfl))
      have hT : ((rdRest f0 f1 0).take (numW 0 (rdRest f0 f1 0)).2.toNat).length ≤ 9 := by
        have := HK.out.2.1; rw [List.length_take]; omega
      clear hI3 hB3 hF3 hI2 hB2 hK2 hK3 hk0
      have hr : pack_Reader_Num.f f0 f1 0 a1 = pack_Reader_Num.f f0 f1 0 a1 := rfl
      clear hr
      unfold rdNum at HH
      simp only [HW.out, if_true] at HH
      have HH' := HH
      clear HH
      generalize (rdRest f0 f1 0).take (numW 0 (rdRest f0 f1 0)).2.toNat = T at *
      have hC := Kd.F_now HF3.out
      have HC := Aside0.mk hC
      clear hC
      generalize (numW 0 (rdRest f0 f1 0)).2 = kk at *
      go_wp2
      go_loopw [5, 16] (fun v i wr => ∃ j : Nat, j ≤ T.length ∧ i = .int .i64 j ∧ v = .int .i64 (numV (T.take j)) ∧ ∃ n, wr = w3.drewN n) (fun _ i _ => T.length - (intOf i).toNat)
      case atStart => exact ⟨0, Nat.zero_le _, rfl, rfl, 0, rfl⟩
      case round =>
        obtain ⟨j, hj, rfl, rfl, n, rfl⟩ := hrel
        by_cases hlt : j < T.length
        · obtain ⟨ad, e1, hcell⟩ := Kd.at_int HC.out (j : Int) (by omega) (by omega)
          cases e1
          rw [Int.toNat_natCast] at hcell
          have HS := Aside0.mk (numV_take T j hlt)
          have hv := numV_small (T.take j) (by rw [List.length_take]; omega)
          generalize rd T (j : Int) = x at *
          generalize numV (T.take j) = v at *
          have hcell0 : j = 0 → w3.cell? ad = some (.int .u8 x) := fun h => by subst h; simpa [Addr.add] using hcell
          have hs := num_step v x hv
          rw [← HS.out] at hs
          have HS2 := Aside0.mk hs
          clear hs
          by_cases hz : j = 0
          · subst hz
            have hc0 := hcell0 rfl
            clear hcell0
            go_wp2
            go_roundw
            case rel => exact ⟨1, by omega, rfl, congrArg (Value.int .i64) HS2.out, _, rfl⟩
            case measure => simp [intOf]; omega
          · clear hcell0
            go_wp2
            go_roundw
            case rel => exact ⟨j + 1, by omega, by go_num, congrArg (Value.int .i64) HS2.out, _, rfl⟩
            case measure => simp [intOf]; omega
        · have hjT : j = T.length := by omega
          subst hjT
          rw [List.take_length]
          obtain ⟨HH'⟩ := HH'
          by_cases hm : a1 < numV T
          · rw [if_pos hm] at HH'
            simp only [Option.some.injEq, Prod.mk.injEq] at HH'
            obtain ⟨rfl, rfl, rfl⟩ := HH'
            have hm1 : decide (a1 < numV T) = true := decide_eq_true hm
            go_wp2_with (first | (go_at_call 30; refine (pack_Reader_Fail.calls g f0 (f1 + kk) 0 5 (f1 + kk) 5 w0 _ (HI3.out.drewN _) (pw_below_drewN HB3.out _) rfl).mono ?_; rintro e w4 ⟨rfl, hI4, hB4, hK4⟩; have HI4 := Aside0.mk hI4; have HB4 := Aside0.mk hB4; have HK4 := Aside0.mk hK4; clear hI4 hB4 hK4) | (go_at_call 55; refine (pack_Reader_works.calls g f0 (f1 + kk) 5 w0 _ HI4.out).mono ?_; rintro e w5 ⟨rfl, n5, rfl⟩))
            go_ret
            exact ⟨rfl, (HI4.out.any (by decide) HP.out.1 HP.out.2).drewN _, pw_below_drewN HB4.out _, (HKK.out.trans ((KeepBut.of_below (pw_below_drewN (Below.refl _ _) _) g none).trans HK4.out (.inl rfl)) (.inl rfl)).trans (KeepBut.of_below (pw_below_drewN (Below.refl _ _) _) g none) (.inl rfl)⟩
          · rw [if_neg hm] at HH'
            simp only [Option.some.injEq, Prod.mk.injEq] at HH'
            obtain ⟨rfl, rfl, rfl⟩ := HH'
            have hm1 : decide (a1 < numV T) = false := decide_eq_false hm
            go_wp2_with (first | (go_at_call 55; refine (pack_Reader_works.calls g f0 (f1 + kk) 0 w0 _ (HI3.out.drewN _)).mono ?_; rintro e w4 ⟨rfl, n4, rfl⟩))
            go_ret
            exact ⟨rfl, HI3.out.drewN _, pw_below_drewN HB3.out _, HKK.out.trans (KeepBut.of_below (pw_below_drewN (Below.refl _ _) _) g none) (.inl rfl)⟩
    · have hne : (numW 0 (rdRest f0 f1 0)).1 ≠ 0 := by omega
      have hneb : ((numW 0 (rdRest f0 f1 0)).1 == 0) = false := beq_eq_false_iff_ne.mpr hne
      have hneb2 : ((numW 0 (rdRest f0 f1 0)).1 != 0) = true := bne_iff_ne.mpr hne
      have HW2 := Aside0.mk hw2
      obtain ⟨HH'⟩ := HH
      unfold rdNum at HH'
      rw [if_neg hne] at HH'
      simp only [Option.some.injEq, Prod.mk.injEq] at HH'
      obtain ⟨rfl, rfl, rfl⟩ := HH'
      have HNE := Aside0.mk hne
      clear hw hw2 hne
      generalize hee : (numW 0 (rdRest f0 f1 0)).1 = er at *
      have HEE := Aside0.mk hee
      clear hee
      have hT0 : rdRest f0 f1 er = [] := by unfold rdRest; rw [if_neg HNE.out]
      have HT0 := Aside0.mk hT0
      clear hT0
      go_enter Try.func27, Try.ntmps27
      go_wp2_with (first | (go_at_call 55; refine (pack_Reader_works.calls g f0 f1 0 w0 _ HI.out).mono ?_; rintro e w1 ⟨rfl, n, rfl⟩))
      refine (pack_Reader_width.calls g f0 f1 w0 _ (HI.out.drewN _) (pw_below_drewN HBB.out _)).mono ?_
      rintro e w2 ⟨rfl, hI2, hB2, hK2⟩
      rw [HEE.out] at hI2
      rw [HW2.out]
      go_wp2_with fail
      refine (pack_Reader_take.yes g f0 f1 er 0 w0 _ hI2 hB2 (by omega) (by rw [HT0.out]; simp)).mono ?_
      rintro e w3 ⟨A', c', rfl, hc', hF3, hI3, hB3, hK3⟩
      have HI3 := Aside0.mk hI3
      have HB3 := Aside0.mk hB3
      have HKK := Aside0.mk ((KeepBut.of_below (pw_below_drewN (Below.refl w.heap.size w) n) g none).trans (hK2.trans hK3 (.inl rfl)) (.inl rfl))
      clear hI3 hB3 hF3 hI2 hB2 hK2 hK3 hc'
      rw [HT0.out]
      go_wp2
      go_loopw [5, 16] (fun v i wr => i = .int .i64 0 ∧ v = .int .i64 0 ∧ ∃ n, wr = w3.drewN n) (fun _ i _ => 0)
      case atStart => exact ⟨rfl, rfl, 0, rfl⟩
      case round =>
        obtain ⟨rfl, rfl, n, rfl⟩ := hrel
        by_cases hm : a1 < 0
        · have hm1 : decide (a1 < 0) = true := decide_eq_true hm
          go_wp2_with (first | (go_at_call 30; refine (pack_Reader_Fail.calls g f0 (f1 + 0) er 5 (f1 + 0) er w0 _ (HI3.out.drewN _) (pw_below_drewN HB3.out _) (by unfold pack_Reader_Fail.f; rw [if_neg HNE.out])).mono ?_; rintro e w4 ⟨rfl, hI4, hB4, hK4⟩; have HI4 := Aside0.mk hI4; have HB4 := Aside0.mk hB4; have HK4 := Aside0.mk hK4; clear hI4 hB4 hK4) | (go_at_call 55; refine (pack_Reader_works.calls g f0 (f1 + 0) er w0 _ HI4.out).mono ?_; rintro e w5 ⟨rfl, n5, rfl⟩))
          go_ret
          exact ⟨rfl, HI4.out.drewN _, pw_below_drewN HB4.out _, (HKK.out.trans ((KeepBut.of_below (pw_below_drewN (Below.refl _ _) _) g none).trans HK4.out (.inl rfl)) (.inl rfl)).trans (KeepBut.of_below (pw_below_drewN (Below.refl _ _) _) g none) (.inl rfl)⟩
        · have hm1 : decide (a1 < 0) = false := decide_eq_false hm
          go_wp2_with (first | (go_at_call 55; refine (pack_Reader_works.calls g f0 (f1 + 0) er w0 _ (HI3.out.drewN _)).mono ?_; rintro e w5 ⟨rfl, n5, rfl⟩))
          go_ret
          exact ⟨rfl, HI3.out.drewN _, pw_below_drewN HB3.out _, HKK.out.trans (KeepBut.of_below (pw_below_drewN (Below.refl _ _) _) g none) (.inl rfl)⟩
  · have hf : pack_Reader_Num.f f0 f1 f2 a1 = _ := if_neg h2
    rw [hf] at HH
    obtain ⟨HH⟩ := HH
    simp only [Option.some.injEq, Prod.mk.injEq] at HH
    obtain ⟨rfl, rfl, rfl⟩ := HH
    have hf1 : (f2 == 0) = false := beq_eq_false_iff_ne.mpr h2
    have hf2 : (f2 != 0) = true := bne_iff_ne.mpr h2
    clear hf
    go_enter Try.func27, Try.ntmps27
    go_wp2_with (go_at_call 55; refine (pack_Reader_works.calls g f0 f1 f2 w0 _ HI.out).mono ?_; rintro e w1 ⟨rfl, n, rfl⟩)
    go_ret
    exact ⟨rfl, HI.out.drewN _, pw_below_drewN HBB.out _, KeepBut.of_below (pw_below_drewN (Below.refl _ _) _) g none⟩


end Go.Proofs.Ytagpdfekeppbgaa.X
