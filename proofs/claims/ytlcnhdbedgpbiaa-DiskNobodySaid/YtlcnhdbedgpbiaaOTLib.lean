/- What runs of the small machine need, beside its equations. -/
import Derived.Test.YtlcnhdbedgpbiaaOTClone
import Derived.IntWalk
set_option linter.unusedVariables false
set_option linter.unusedSimpArgs false
set_option maxRecDepth 10000
namespace Go.T
mutual
theorem TV.beq_refl : ∀ (v : TV), TV.beq v v = true
  | .bool a => by simp [TV.beq]
  | .int k n => by simp [TV.beq]
  | .str a => by simp [TV.beq]
  | .ptr i o => by simp [TV.beq]
  | .nilp => rfl
  | .nils => rfl
  | .nilf => rfl
  | .junk => rfl
  | .lp i o => by simp [TV.beq]
  | .asl a s i o n => by simp [TV.beq]
  | .cp l => by simp only [TV.beq]; exact TV.beqs_refl l
  | .lbox l => by simp only [TV.beq]; exact TV.beqs_refl l
  | .agg l => by simp only [TV.beq]; exact TV.beqs_refl l
  | .tup l => by simp only [TV.beq]; exact TV.beqs_refl l
  | .sl g l => by simp [TV.beq, TV.beqs_refl l]
  | .fn f l => by simp [TV.beq, TV.beqs_refl l]
theorem TV.beqs_refl : ∀ (l : List TV), TV.beqs l l = true
  | [] => rfl
  | a :: l => by simp [TV.beqs, TV.beq_refl a, TV.beqs_refl l]
end
theorem Heap_beq_refl (h : Heap) : Heap.beq h h = true := by
  induction h with
  | nil => rfl
  | cons a h ih => simp [Heap.beq, TV.beqs_refl a, ih]
theorem live_zero {cs : List TV} {h : Heap} : live (cs :: h) 0 = if dead cs = true then none else some cs := rfl
theorem live_succ {cs : List TV} {h : Heap} {i : Nat} : live (cs :: h) (i + 1) = live h i := rfl
theorem live_lt {h : Heap} {i : Nat} {cs : List TV} (hl : live h i = some cs) : i < h.length := (List.getElem?_eq_some_iff.1 (live_some hl).1).1
theorem live_set_eq {h : Heap} {i : Nat} {cs : List TV} (hi : i < h.length) (hd : dead cs = false) : live (h.set i cs) i = some cs := by
  unfold live
  rw [List.getElem?_set_self hi]
  simp [hd]
theorem live_set_ne {h : Heap} {i j : Nat} {cs : List TV} (hij : i ≠ j) : live (h.set i cs) j = live h j := by
  unfold live
  rw [List.getElem?_set_ne hij]
theorem live_app_lt {h : Heap} {x : List TV} {i : Nat} (hi : i < h.length) : live (h ++ [x]) i = live h i := by
  unfold live
  rw [List.getElem?_append_left hi]
theorem live_app_eq {h : Heap} {x : List TV} (hd : dead x = false) : live (h ++ [x]) h.length = some x := by
  unfold live
  rw [List.getElem?_append_right (Nat.le_refl _)]
  simp [hd]
theorem set_same {h : Heap} {i : Nat} {cs : List TV} (hl : live h i = some cs) : h.set i cs = h := by
  have h1 := (live_some hl).1
  apply List.ext_getElem?
  intro j
  rw [List.getElem?_set]
  split
  · rename_i hij
    subst hij
    rw [if_pos (List.getElem?_eq_some_iff.1 h1).1, h1]
  · rfl
theorem dead_two {a b : TV} {l : List TV} : dead (a :: b :: l) = false := by
  unfold dead
  split
  · rename_i h; cases h
  · rfl
theorem z_shr0_bool (b : Bool) : TV.shr0 (TV.bool b) = (TV.bool b) := rfl
theorem z_shrK_bool (b : Bool) : TV.shrK (TV.bool b) = (TV.bool b) := rfl
theorem z_shrKA_bool (b : Bool) : TV.shrKA (TV.bool b) = (TV.bool b) := rfl
theorem z_shrA_bool (b : Bool) : TV.shrA (TV.bool b) = (TV.bool b) := rfl
theorem z_shrT_bool (b : Bool) : TV.shrT (TV.bool b) = (TV.bool b) := rfl
theorem z_lb_bool (b : Bool) : isLb (TV.bool b) = false := rfl
theorem z_ao_bool (b : Bool) : argOk (TV.bool b) = true := rfl
theorem z_ic_bool (b : Bool) : TV.isCell (TV.bool b) = true := rfl
theorem z_cells_bool (b : Bool) : TV.cells (TV.bool b) = [(TV.bool b)] := rfl
theorem z_ie_bool (b : Bool) : TV.isElt (TV.bool b) = true := rfl
theorem z_shr0_int (k : IntKind) (n : Int) : TV.shr0 (TV.int k n) = (TV.int k n) := rfl
theorem z_shrK_int (k : IntKind) (n : Int) : TV.shrK (TV.int k n) = (TV.int k n) := rfl
theorem z_shrKA_int (k : IntKind) (n : Int) : TV.shrKA (TV.int k n) = (TV.int k n) := rfl
theorem z_shrA_int (k : IntKind) (n : Int) : TV.shrA (TV.int k n) = (TV.int k n) := rfl
theorem z_shrT_int (k : IntKind) (n : Int) : TV.shrT (TV.int k n) = (TV.int k n) := rfl
theorem z_lb_int (k : IntKind) (n : Int) : isLb (TV.int k n) = false := rfl
theorem z_ao_int (k : IntKind) (n : Int) : argOk (TV.int k n) = true := rfl
theorem z_ic_int (k : IntKind) (n : Int) : TV.isCell (TV.int k n) = true := rfl
theorem z_cells_int (k : IntKind) (n : Int) : TV.cells (TV.int k n) = [(TV.int k n)] := rfl
theorem z_ie_int (k : IntKind) (n : Int) : TV.isElt (TV.int k n) = true := rfl
theorem z_shr0_str (s : ByteArray) : TV.shr0 (TV.str s) = (TV.str s) := rfl
theorem z_shrK_str (s : ByteArray) : TV.shrK (TV.str s) = (TV.str s) := rfl
theorem z_shrKA_str (s : ByteArray) : TV.shrKA (TV.str s) = (TV.str s) := rfl
theorem z_shrA_str (s : ByteArray) : TV.shrA (TV.str s) = (TV.str s) := rfl
theorem z_shrT_str (s : ByteArray) : TV.shrT (TV.str s) = (TV.str s) := rfl
theorem z_lb_str (s : ByteArray) : isLb (TV.str s) = false := rfl
theorem z_ao_str (s : ByteArray) : argOk (TV.str s) = true := rfl
theorem z_ic_str (s : ByteArray) : TV.isCell (TV.str s) = true := rfl
theorem z_cells_str (s : ByteArray) : TV.cells (TV.str s) = [(TV.str s)] := rfl
theorem z_ie_str (s : ByteArray) : TV.isElt (TV.str s) = true := rfl
theorem z_shr0_ptr (i o : Nat) : TV.shr0 (TV.ptr i o) = (TV.ptr i o) := rfl
theorem z_shrK_ptr (i o : Nat) : TV.shrK (TV.ptr i o) = (TV.ptr i o) := rfl
theorem z_shrKA_ptr (i o : Nat) : TV.shrKA (TV.ptr i o) = (TV.ptr i o) := rfl
theorem z_shrA_ptr (i o : Nat) : TV.shrA (TV.ptr i o) = (TV.ptr i o) := rfl
theorem z_shrT_ptr (i o : Nat) : TV.shrT (TV.ptr i o) = (TV.ptr i o) := rfl
theorem z_lb_ptr (i o : Nat) : isLb (TV.ptr i o) = false := rfl
theorem z_ao_ptr (i o : Nat) : argOk (TV.ptr i o) = true := rfl
theorem z_ic_ptr (i o : Nat) : TV.isCell (TV.ptr i o) = true := rfl
theorem z_cells_ptr (i o : Nat) : TV.cells (TV.ptr i o) = [(TV.ptr i o)] := rfl
theorem z_ie_ptr (i o : Nat) : TV.isElt (TV.ptr i o) = true := rfl
theorem z_shr0_nilp  : TV.shr0 TV.nilp = TV.nilp := rfl
theorem z_shrK_nilp  : TV.shrK TV.nilp = TV.nilp := rfl
theorem z_shrKA_nilp  : TV.shrKA TV.nilp = TV.nilp := rfl
theorem z_shrA_nilp  : TV.shrA TV.nilp = TV.nilp := rfl
theorem z_shrT_nilp  : TV.shrT TV.nilp = TV.nilp := rfl
theorem z_lb_nilp  : isLb TV.nilp = false := rfl
theorem z_ao_nilp  : argOk TV.nilp = true := rfl
theorem z_ic_nilp  : TV.isCell TV.nilp = true := rfl
theorem z_cells_nilp  : TV.cells TV.nilp = [TV.nilp] := rfl
theorem z_ie_nilp  : TV.isElt TV.nilp = true := rfl
theorem z_shr0_nils  : TV.shr0 TV.nils = .sl .shr [] := rfl
theorem z_shrK_nils  : TV.shrK TV.nils = TV.nils := rfl
theorem z_shrKA_nils  : TV.shrKA TV.nils = TV.nils := rfl
theorem z_shrA_nils  : TV.shrA TV.nils = .sl .shr [] := rfl
theorem z_shrT_nils  : TV.shrT TV.nils = .sl .shr [] := rfl
theorem z_lb_nils  : isLb TV.nils = false := rfl
theorem z_ao_nils  : argOk TV.nils = true := rfl
theorem z_ic_nils  : TV.isCell TV.nils = true := rfl
theorem z_cells_nils  : TV.cells TV.nils = [TV.nils] := rfl
theorem z_ie_nils  : TV.isElt TV.nils = true := rfl
theorem z_shr0_cp (l : List TV) : TV.shr0 (TV.cp l) = (TV.cp l) := rfl
theorem z_shrK_cp (l : List TV) : TV.shrK (TV.cp l) = (TV.cp l) := rfl
theorem z_shrKA_cp (l : List TV) : TV.shrKA (TV.cp l) = (TV.cp l) := rfl
theorem z_shrA_cp (l : List TV) : TV.shrA (TV.cp l) = (TV.cp l) := rfl
theorem z_shrT_cp (l : List TV) : TV.shrT (TV.cp l) = (TV.cp l) := rfl
theorem z_lb_cp (l : List TV) : isLb (TV.cp l) = false := rfl
theorem z_ao_cp (l : List TV) : argOk (TV.cp l) = true := rfl
theorem z_ic_cp (l : List TV) : TV.isCell (TV.cp l) = true := rfl
theorem z_cells_cp (l : List TV) : TV.cells (TV.cp l) = [(TV.cp l)] := rfl
theorem z_ie_cp (l : List TV) : TV.isElt (TV.cp l) = true := rfl
theorem z_shr0_sl (g : Tag) (l : List TV) : TV.shr0 (TV.sl g l) = .sl .shr l := rfl
theorem z_shrK_sl (g : Tag) (l : List TV) : TV.shrK (TV.sl g l) = .sl .shr l := rfl
theorem z_shrKA_sl (g : Tag) (l : List TV) : TV.shrKA (TV.sl g l) = .sl .shr l := rfl
theorem z_shrA_sl (g : Tag) (l : List TV) : TV.shrA (TV.sl g l) = .sl .shr l := rfl
theorem z_shrT_sl (g : Tag) (l : List TV) : TV.shrT (TV.sl g l) = .sl .shr l := rfl
theorem z_lb_sl (g : Tag) (l : List TV) : isLb (TV.sl g l) = false := rfl
theorem z_ao_sl (g : Tag) (l : List TV) : argOk (TV.sl g l) = true := rfl
theorem z_ic_sl (g : Tag) (l : List TV) : TV.isCell (TV.sl g l) = true := rfl
theorem z_cells_sl (g : Tag) (l : List TV) : TV.cells (TV.sl g l) = [(TV.sl g l)] := rfl
theorem z_shr0_asl (ag : Bool) (sz i o n : Nat) : TV.shr0 (TV.asl ag sz i o n) = (TV.asl ag sz i o n) := rfl
theorem z_shrK_asl (ag : Bool) (sz i o n : Nat) : TV.shrK (TV.asl ag sz i o n) = (TV.asl ag sz i o n) := rfl
theorem z_shrKA_asl (ag : Bool) (sz i o n : Nat) : TV.shrKA (TV.asl ag sz i o n) = (TV.asl ag sz i o n) := rfl
theorem z_shrA_asl (ag : Bool) (sz i o n : Nat) : TV.shrA (TV.asl ag sz i o n) = (TV.asl ag sz i o n) := rfl
theorem z_shrT_asl (ag : Bool) (sz i o n : Nat) : TV.shrT (TV.asl ag sz i o n) = (TV.asl ag sz i o n) := rfl
theorem z_lb_asl (ag : Bool) (sz i o n : Nat) : isLb (TV.asl ag sz i o n) = false := rfl
theorem z_ao_asl (ag : Bool) (sz i o n : Nat) : argOk (TV.asl ag sz i o n) = true := rfl
theorem z_ic_asl (ag : Bool) (sz i o n : Nat) : TV.isCell (TV.asl ag sz i o n) = true := rfl
theorem z_cells_asl (ag : Bool) (sz i o n : Nat) : TV.cells (TV.asl ag sz i o n) = [(TV.asl ag sz i o n)] := rfl
theorem z_shr0_fn (f : Nat) (l : List TV) : TV.shr0 (TV.fn f l) = (TV.fn f l) := rfl
theorem z_shrK_fn (f : Nat) (l : List TV) : TV.shrK (TV.fn f l) = (TV.fn f l) := rfl
theorem z_shrKA_fn (f : Nat) (l : List TV) : TV.shrKA (TV.fn f l) = (TV.fn f l) := rfl
theorem z_shrA_fn (f : Nat) (l : List TV) : TV.shrA (TV.fn f l) = (TV.fn f l) := rfl
theorem z_shrT_fn (f : Nat) (l : List TV) : TV.shrT (TV.fn f l) = (TV.fn f l) := rfl
theorem z_lb_fn (f : Nat) (l : List TV) : isLb (TV.fn f l) = false := rfl
theorem z_ao_fn (f : Nat) (l : List TV) : argOk (TV.fn f l) = true := rfl
theorem z_ic_fn (f : Nat) (l : List TV) : TV.isCell (TV.fn f l) = true := rfl
theorem z_cells_fn (f : Nat) (l : List TV) : TV.cells (TV.fn f l) = [(TV.fn f l)] := rfl
theorem z_ie_fn (f : Nat) (l : List TV) : TV.isElt (TV.fn f l) = true := rfl
theorem z_shr0_nilf  : TV.shr0 TV.nilf = TV.nilf := rfl
theorem z_shrK_nilf  : TV.shrK TV.nilf = TV.nilf := rfl
theorem z_shrKA_nilf  : TV.shrKA TV.nilf = TV.nilf := rfl
theorem z_shrA_nilf  : TV.shrA TV.nilf = TV.nilf := rfl
theorem z_shrT_nilf  : TV.shrT TV.nilf = TV.nilf := rfl
theorem z_lb_nilf  : isLb TV.nilf = false := rfl
theorem z_ao_nilf  : argOk TV.nilf = true := rfl
theorem z_ic_nilf  : TV.isCell TV.nilf = true := rfl
theorem z_cells_nilf  : TV.cells TV.nilf = [TV.nilf] := rfl
theorem z_ie_nilf  : TV.isElt TV.nilf = true := rfl
theorem z_shr0_agg (l : List TV) : TV.shr0 (TV.agg l) = (TV.agg l) := rfl
theorem z_shrK_agg (l : List TV) : TV.shrK (TV.agg l) = (TV.agg l) := rfl
theorem z_shrKA_agg (l : List TV) : TV.shrKA (TV.agg l) = .agg (l.map TV.shrK) := rfl
theorem z_shrA_agg (l : List TV) : TV.shrA (TV.agg l) = .agg (l.map TV.shr0) := rfl
theorem z_shrT_agg (l : List TV) : TV.shrT (TV.agg l) = .agg (l.map TV.shr0) := rfl
theorem z_lb_agg (l : List TV) : isLb (TV.agg l) = false := rfl
theorem z_ao_agg (l : List TV) : argOk (TV.agg l) = l.all TV.isCell := rfl
theorem z_ic_agg (l : List TV) : TV.isCell (TV.agg l) = false := rfl
theorem z_cells_agg (l : List TV) : TV.cells (TV.agg l) = l := rfl
theorem z_ie_agg (l : List TV) : TV.isElt (TV.agg l) = false := rfl
theorem z_shr0_tup (l : List TV) : TV.shr0 (TV.tup l) = (TV.tup l) := rfl
theorem z_shrK_tup (l : List TV) : TV.shrK (TV.tup l) = (TV.tup l) := rfl
theorem z_shrKA_tup (l : List TV) : TV.shrKA (TV.tup l) = .junk := rfl
theorem z_shrA_tup (l : List TV) : TV.shrA (TV.tup l) = (TV.tup l) := rfl
theorem z_shrT_tup (l : List TV) : TV.shrT (TV.tup l) = .tup (l.map TV.shrA) := rfl
theorem z_lb_tup (l : List TV) : isLb (TV.tup l) = false := rfl
theorem z_ao_tup (l : List TV) : argOk (TV.tup l) = false := rfl
theorem z_ic_tup (l : List TV) : TV.isCell (TV.tup l) = false := rfl
theorem z_cells_tup (l : List TV) : TV.cells (TV.tup l) = [(TV.tup l)] := rfl
theorem z_ie_tup (l : List TV) : TV.isElt (TV.tup l) = false := rfl
theorem z_shr0_junk  : TV.shr0 TV.junk = TV.junk := rfl
theorem z_shrK_junk  : TV.shrK TV.junk = TV.junk := rfl
theorem z_shrKA_junk  : TV.shrKA TV.junk = TV.junk := rfl
theorem z_shrA_junk  : TV.shrA TV.junk = TV.junk := rfl
theorem z_shrT_junk  : TV.shrT TV.junk = TV.junk := rfl
theorem z_lb_junk  : isLb TV.junk = false := rfl
theorem z_ao_junk  : argOk TV.junk = false := rfl
theorem z_ic_junk  : TV.isCell TV.junk = false := rfl
theorem z_cells_junk  : TV.cells TV.junk = [TV.junk] := rfl
theorem z_ie_junk  : TV.isElt TV.junk = false := rfl
theorem z_shr0_lp (i o : Nat) : TV.shr0 (TV.lp i o) = (TV.lp i o) := rfl
theorem z_shrK_lp (i o : Nat) : TV.shrK (TV.lp i o) = (TV.lp i o) := rfl
theorem z_shrKA_lp (i o : Nat) : TV.shrKA (TV.lp i o) = (TV.lp i o) := rfl
theorem z_shrA_lp (i o : Nat) : TV.shrA (TV.lp i o) = (TV.lp i o) := rfl
theorem z_shrT_lp (i o : Nat) : TV.shrT (TV.lp i o) = (TV.lp i o) := rfl
theorem z_lb_lp (i o : Nat) : isLb (TV.lp i o) = false := rfl
theorem z_ao_lp (i o : Nat) : argOk (TV.lp i o) = false := rfl
theorem z_ic_lp (i o : Nat) : TV.isCell (TV.lp i o) = false := rfl
theorem z_cells_lp (i o : Nat) : TV.cells (TV.lp i o) = [(TV.lp i o)] := rfl
theorem z_ie_lp (i o : Nat) : TV.isElt (TV.lp i o) = false := rfl
theorem z_shr0_lbox (l : List TV) : TV.shr0 (TV.lbox l) = (TV.lbox l) := rfl
theorem z_shrK_lbox (l : List TV) : TV.shrK (TV.lbox l) = (TV.lbox l) := rfl
theorem z_shrKA_lbox (l : List TV) : TV.shrKA (TV.lbox l) = (TV.lbox l) := rfl
theorem z_shrA_lbox (l : List TV) : TV.shrA (TV.lbox l) = (TV.lbox l) := rfl
theorem z_shrT_lbox (l : List TV) : TV.shrT (TV.lbox l) = (TV.lbox l) := rfl
theorem z_lb_lbox (l : List TV) : isLb (TV.lbox l) = true := rfl
theorem z_ao_lbox (l : List TV) : argOk (TV.lbox l) = false := rfl
theorem z_ic_lbox (l : List TV) : TV.isCell (TV.lbox l) = false := rfl
theorem z_cells_lbox (l : List TV) : TV.cells (TV.lbox l) = [(TV.lbox l)] := rfl
theorem z_ie_lbox (l : List TV) : TV.isElt (TV.lbox l) = false := rfl
theorem z_ie_sl0 (l : List TV) : TV.isElt (.sl .shr l) = true := rfl
theorem z_ie_sl1 (n : Nat) (s : Bool) (l : List TV) : TV.isElt (.sl (.own n s) l) = false := rfl
theorem z_ie_asl (ag : Bool) (sz i o n : Nat) : TV.isElt (.asl ag sz i o n) = false := rfl
/-- A byte. -/
def tb (b : UInt8) : TV := .int .u8 b.toNat
theorem tb_eq {a b : UInt8} : tb a = tb b ↔ a = b := by
  constructor
  · intro h
    simp only [tb, TV.int.injEq, true_and] at h
    exact UInt8.toNat_inj.1 (by exact_mod_cast h)
  · rintro rfl; rfl
theorem byteOf_tb (b : UInt8) : byteOf (tb b) = b := by simp [byteOf, tb]
theorem map_byteOf (l : List UInt8) : (l.map tb).map byteOf = l := by simp [Function.comp_def, byteOf_tb]
theorem okW_tb (l : List UInt8) : okW 1 (l.map tb) = true := by simp [okW, tb, TV.cells]
theorem isByte_tb (l : List UInt8) : (l.map tb).all isByte = true := by simp [tb, isByte]
theorem ofBytes_mk (l : List UInt8) : ofBytes ⟨l.toArray⟩ = l.map tb := by simp [ofBytes, tb, Function.comp_def]
theorem flat_tb (l : List UInt8) : flat (l.map tb) = l.map tb := by
  simp only [flat, List.flatMap_map]
  induction l with
  | nil => rfl
  | cons a l ih => rw [List.flatMap_cons, ih]; rfl
theorem regroup_one (l : List TV) : regroup false 1 l.length l = l := by
  induction l with
  | nil => rfl
  | cons a l ih => simp [regroup, pack, ih]
theorem shr0_tb (l : List UInt8) : (l.map tb).map TV.shr0 = l.map tb := by simp [tb, TV.shr0, Function.comp_def]
/-- Rows of structs, one behind the other. -/
theorem cut_row {α : Type} {f : α → List TV} {w : Nat} (hw : ∀ a, (f a).length = w) {l : List α} {k : Nat} {a : α} (hk : l[k]? = some a) {o n : Nat} {vs : List TV} (h : cut (f a) o n = some vs) : cut (l.flatMap f) (k * w + o) n = some vs := by
  induction l generalizing k with
  | nil => simp at hk
  | cons b l ih =>
    have hlen : (f b).length = w := hw b
    cases k with
    | zero =>
      simp at hk
      subst hk
      unfold cut at h ⊢
      split at h
      · rename_i hle
        obtain rfl := Option.some.inj h
        have : 0 * w + o + n ≤ ((b :: l).flatMap f).length := by simp; omega
        rw [if_pos this]
        simp only [Nat.zero_mul, Nat.zero_add, List.flatMap_cons, Option.some.injEq]
        rw [List.drop_append_of_le_length (by omega), List.take_append_of_le_length (by simp; omega)]
      · cases h
    | succ k =>
      simp at hk
      have := ih hk
      unfold cut at this ⊢
      split at this
      · rename_i hle
        have h2 : (k + 1) * w + o + n ≤ ((b :: l).flatMap f).length := by rw [List.flatMap_cons, List.length_append, hlen, Nat.succ_mul]; omega
        rw [if_pos h2]
        obtain h3 := Option.some.inj this
        rw [← h3]
        congr 2
        rw [List.flatMap_cons, List.drop_append, List.drop_eq_nil_of_le (by rw [hlen, Nat.succ_mul]; omega), List.nil_append]
        congr 1
        rw [hlen, Nat.succ_mul]; omega
      · cases this
theorem splice_row {α : Type} {f : α → List TV} {w : Nat} (hw : ∀ a, (f a).length = w) {l : List α} {k : Nat} {a a' : α} (hk : l[k]? = some a) {o : Nat} {vs : List TV} (ho : o + vs.length ≤ w) (h : splice (f a) o vs = f a') : splice (l.flatMap f) (k * w + o) vs = (l.set k a').flatMap f := by
  induction l generalizing k with
  | nil => simp at hk
  | cons b l ih =>
    have hlen : (f b).length = w := hw b
    cases k with
    | zero =>
      simp at hk
      subst hk
      rw [List.set_cons_zero, List.flatMap_cons, List.flatMap_cons, ← h]
      unfold splice
      simp only [Nat.zero_mul, Nat.zero_add]
      rw [List.take_append_of_le_length (by omega), List.drop_append_of_le_length (by omega)]
      simp
    | succ k =>
      simp at hk
      have := ih hk
      rw [List.set_cons_succ, List.flatMap_cons, List.flatMap_cons, ← this]
      unfold splice
      have e1 : (k + 1) * w + o = (f b).length + (k * w + o) := by rw [hlen, Nat.succ_mul]; omega
      rw [e1, List.take_length_add_append, List.append_assoc]
      congr 1
      congr 1
      congr 1
      rw [show (f b).length + (k * w + o) + vs.length = (f b).length + (k * w + o + vs.length) by omega, List.drop_length_add_append]
theorem row_length {α : Type} {f : α → List TV} {w : Nat} (hw : ∀ a, (f a).length = w) (l : List α) : (l.flatMap f).length = l.length * w := by
  induction l with
  | nil => simp
  | cons a l ih => simp [ih, hw, Nat.succ_mul]; omega
theorem flat_zeros {ag : Bool} {z : List TV} {n : Nat} : flat (zeros ag z n) = flat (List.replicate n (pack ag z)) := rfl
theorem Ap_none {cx : Cx} {ks : List Fr} {d : Option Nat} {os : List TOper} {kl : List Nat} {st : St} : Ap cx ks d os kl st none = False := rfl
theorem cut_zero {cs : List TV} : cut cs 0 0 = some [] := by simp [cut]
theorem cut_cons_succ {a : TV} {cs : List TV} {o n : Nat} : cut (a :: cs) (o + 1) n = cut cs o n := by
  unfold cut
  by_cases h : o + n ≤ cs.length
  · rw [if_pos h, if_pos (by simp; omega)]; rfl
  · rw [if_neg h, if_neg (by simp; omega)]
theorem cut_cons_zero {a : TV} {cs : List TV} {n : Nat} : cut (a :: cs) 0 (n + 1) = (cut cs 0 n).map (fun l => a :: l) := by
  unfold cut
  by_cases h : 0 + n ≤ cs.length
  · rw [if_pos h, if_pos (by simp; omega)]; rfl
  · rw [if_neg h, if_neg (by simp; omega)]; rfl
theorem splice_cons_succ {a : TV} {cs vs : List TV} {o : Nat} : splice (a :: cs) (o + 1) vs = a :: splice cs o vs := by
  unfold splice
  rw [show o + 1 + vs.length = (o + vs.length) + 1 by omega]
  rfl
theorem splice_cons_zero {a : TV} {cs vs : List TV} : splice (a :: cs) 0 vs = vs ++ (a :: cs).drop vs.length := by
  simp [splice]
theorem trim_refl {fz : Bool} {v : TV} {h : Heap} {k : Bool} : trim fz h.length ⟨v, h, k⟩ = ⟨v, h, k⟩ := by simp [trim]
theorem trim_kp {fz : Bool} {v : TV} {h : Heap} {b : Nat} : trim fz b ⟨v, h, true⟩ = ⟨v, h, true⟩ := by simp [trim]
theorem rowT_nil {h : Heap} {base : Nat} {x : TV} (hx : rowT base x = []) : frzT h base x = x := by
  have key := @rowA_nil h base x
  cases x with
  | tup cs =>
    simp only [frzT]
    congr 1
    simp only [rowT, List.flatMap_eq_nil_iff] at hx
    rw [List.map_congr_left (fun y hy => rowA_nil (hx y hy))]
    simp
  | _ => exact key hx
theorem trim_out {fz : Bool} {v : TV} {h : Heap} {b : Nat} {k : Bool} (hr : rowT b v = []) (hl : TV.lt b v = false) : trim fz b ⟨v, h, k⟩ = ⟨v, h, k⟩ := by
  unfold trim
  split
  · rfl
  split
  · rfl
  simp only [rowT_nil hr, ite_self]
  rw [if_neg (by simp [hl])]
theorem trim_in {fz : Bool} {v : TV} {h x : Heap} (hr : rowT h.length v = []) (hl : TV.lt h.length v = true) : trim fz h.length ⟨v, h ++ x, false⟩ = ⟨v, h, false⟩ := by
  unfold trim
  split
  · rename_i hh
    have : x = [] := List.eq_nil_of_length_eq_zero (by simp at hh; simp [hh])
    subst this
    simp
  · rw [if_neg (by simp)]
    simp only [rowT_nil hr, ite_self]
    rw [if_pos hl]
    simp
/- What runs rewrite by. -/
theorem zz0 : (type_of% @trim_refl) ∧ (type_of% @trim_kp) ∧ (type_of% @Run_seq) ∧ (type_of% @Run_block) ∧ (type_of% @Run_reg) ∧ (type_of% @Run_ret) ∧ (type_of% @Run_skip) ∧ (type_of% @Run_cond) ∧ (type_of% @Run_exit) ∧ (type_of% @RS_nil) ∧ (type_of% @RS_cons) ∧ (type_of% @RS_guard) ∧ (type_of% @Back_seq) ∧ (type_of% @Back_seq_ret) ∧ (type_of% @Back_seq_ex) ∧ (type_of% @Back_blk) ∧ (type_of% @Back_blk_ret) ∧ (type_of% @Back_blk_ex) ∧ (type_of% @Back_loop) ∧ (type_of% @Back_loop_ret) ∧ (type_of% @Back_loop_ex) ∧ (type_of% @Back_nil) ∧ (type_of% @Back_nil_ret) ∧ (type_of% @sl_zero) ∧ (type_of% @sl_succ) ∧ (type_of% @Ap_val) ∧ (type_of% @Ap_tk) ∧ (type_of% @Ap_hw) ∧ (type_of% @Ap_gen) ∧ (type_of% @live_zero) ∧ (type_of% @live_succ) ∧ (type_of% @Grd_bool) ∧ (type_of% @Grd_tup) ∧ (type_of% @Cnd_bool) ∧ (type_of% @cut_zero) ∧ (type_of% @cut_cons_succ) ∧ (type_of% @cut_cons_zero) ∧ (type_of% @splice_cons_succ) ∧ (type_of% @splice_cons_zero) ∧ (type_of% @Heap_beq_refl) ∧ (type_of% @z_shr0_bool) ∧ (type_of% @z_shrK_bool) :=
  ⟨@trim_refl, @trim_kp, @Run_seq, @Run_block, @Run_reg, @Run_ret, @Run_skip, @Run_cond, @Run_exit, @RS_nil, @RS_cons, @RS_guard, @Back_seq, @Back_seq_ret, @Back_seq_ex, @Back_blk, @Back_blk_ret, @Back_blk_ex, @Back_loop, @Back_loop_ret, @Back_loop_ex, @Back_nil, @Back_nil_ret, @sl_zero, @sl_succ, @Ap_val, @Ap_tk, @Ap_hw, @Ap_gen, @live_zero, @live_succ, @Grd_bool, @Grd_tup, @Cnd_bool, @cut_zero, @cut_cons_succ, @cut_cons_zero, @splice_cons_succ, @splice_cons_zero, @Heap_beq_refl, @z_shr0_bool, @z_shrK_bool⟩
theorem zz1 : (type_of% @z_shrKA_bool) ∧ (type_of% @z_shrA_bool) ∧ (type_of% @z_shrT_bool) ∧ (type_of% @z_lb_bool) ∧ (type_of% @z_ao_bool) ∧ (type_of% @z_ic_bool) ∧ (type_of% @z_cells_bool) ∧ (type_of% @z_ie_bool) ∧ (type_of% @z_shr0_int) ∧ (type_of% @z_shrK_int) ∧ (type_of% @z_shrKA_int) ∧ (type_of% @z_shrA_int) ∧ (type_of% @z_shrT_int) ∧ (type_of% @z_lb_int) ∧ (type_of% @z_ao_int) ∧ (type_of% @z_ic_int) ∧ (type_of% @z_cells_int) ∧ (type_of% @z_ie_int) ∧ (type_of% @z_shr0_str) ∧ (type_of% @z_shrK_str) ∧ (type_of% @z_shrKA_str) ∧ (type_of% @z_shrA_str) ∧ (type_of% @z_shrT_str) ∧ (type_of% @z_lb_str) ∧ (type_of% @z_ao_str) ∧ (type_of% @z_ic_str) ∧ (type_of% @z_cells_str) ∧ (type_of% @z_ie_str) ∧ (type_of% @z_shr0_ptr) ∧ (type_of% @z_shrK_ptr) ∧ (type_of% @z_shrKA_ptr) ∧ (type_of% @z_shrA_ptr) ∧ (type_of% @z_shrT_ptr) ∧ (type_of% @z_lb_ptr) ∧ (type_of% @z_ao_ptr) ∧ (type_of% @z_ic_ptr) ∧ (type_of% @z_cells_ptr) ∧ (type_of% @z_ie_ptr) ∧ (type_of% @z_shr0_nilp) ∧ (type_of% @z_shrK_nilp) :=
  ⟨@z_shrKA_bool, @z_shrA_bool, @z_shrT_bool, @z_lb_bool, @z_ao_bool, @z_ic_bool, @z_cells_bool, @z_ie_bool, @z_shr0_int, @z_shrK_int, @z_shrKA_int, @z_shrA_int, @z_shrT_int, @z_lb_int, @z_ao_int, @z_ic_int, @z_cells_int, @z_ie_int, @z_shr0_str, @z_shrK_str, @z_shrKA_str, @z_shrA_str, @z_shrT_str, @z_lb_str, @z_ao_str, @z_ic_str, @z_cells_str, @z_ie_str, @z_shr0_ptr, @z_shrK_ptr, @z_shrKA_ptr, @z_shrA_ptr, @z_shrT_ptr, @z_lb_ptr, @z_ao_ptr, @z_ic_ptr, @z_cells_ptr, @z_ie_ptr, @z_shr0_nilp, @z_shrK_nilp⟩
theorem zz2 : (type_of% @z_shrKA_nilp) ∧ (type_of% @z_shrA_nilp) ∧ (type_of% @z_shrT_nilp) ∧ (type_of% @z_lb_nilp) ∧ (type_of% @z_ao_nilp) ∧ (type_of% @z_ic_nilp) ∧ (type_of% @z_cells_nilp) ∧ (type_of% @z_ie_nilp) ∧ (type_of% @z_shr0_nils) ∧ (type_of% @z_shrK_nils) ∧ (type_of% @z_shrKA_nils) ∧ (type_of% @z_shrA_nils) ∧ (type_of% @z_shrT_nils) ∧ (type_of% @z_lb_nils) ∧ (type_of% @z_ao_nils) ∧ (type_of% @z_ic_nils) ∧ (type_of% @z_cells_nils) ∧ (type_of% @z_ie_nils) ∧ (type_of% @z_shr0_cp) ∧ (type_of% @z_shrK_cp) ∧ (type_of% @z_shrKA_cp) ∧ (type_of% @z_shrA_cp) ∧ (type_of% @z_shrT_cp) ∧ (type_of% @z_lb_cp) ∧ (type_of% @z_ao_cp) ∧ (type_of% @z_ic_cp) ∧ (type_of% @z_cells_cp) ∧ (type_of% @z_ie_cp) ∧ (type_of% @z_shr0_sl) ∧ (type_of% @z_shrK_sl) ∧ (type_of% @z_shrKA_sl) ∧ (type_of% @z_shrA_sl) ∧ (type_of% @z_shrT_sl) ∧ (type_of% @z_lb_sl) ∧ (type_of% @z_ao_sl) ∧ (type_of% @z_ic_sl) ∧ (type_of% @z_cells_sl) ∧ (type_of% @z_shr0_asl) ∧ (type_of% @z_shrK_asl) ∧ (type_of% @z_shrKA_asl) :=
  ⟨@z_shrKA_nilp, @z_shrA_nilp, @z_shrT_nilp, @z_lb_nilp, @z_ao_nilp, @z_ic_nilp, @z_cells_nilp, @z_ie_nilp, @z_shr0_nils, @z_shrK_nils, @z_shrKA_nils, @z_shrA_nils, @z_shrT_nils, @z_lb_nils, @z_ao_nils, @z_ic_nils, @z_cells_nils, @z_ie_nils, @z_shr0_cp, @z_shrK_cp, @z_shrKA_cp, @z_shrA_cp, @z_shrT_cp, @z_lb_cp, @z_ao_cp, @z_ic_cp, @z_cells_cp, @z_ie_cp, @z_shr0_sl, @z_shrK_sl, @z_shrKA_sl, @z_shrA_sl, @z_shrT_sl, @z_lb_sl, @z_ao_sl, @z_ic_sl, @z_cells_sl, @z_shr0_asl, @z_shrK_asl, @z_shrKA_asl⟩
theorem zz3 : (type_of% @z_shrA_asl) ∧ (type_of% @z_shrT_asl) ∧ (type_of% @z_lb_asl) ∧ (type_of% @z_ao_asl) ∧ (type_of% @z_ic_asl) ∧ (type_of% @z_cells_asl) ∧ (type_of% @z_shr0_fn) ∧ (type_of% @z_shrK_fn) ∧ (type_of% @z_shrKA_fn) ∧ (type_of% @z_shrA_fn) ∧ (type_of% @z_shrT_fn) ∧ (type_of% @z_lb_fn) ∧ (type_of% @z_ao_fn) ∧ (type_of% @z_ic_fn) ∧ (type_of% @z_cells_fn) ∧ (type_of% @z_ie_fn) ∧ (type_of% @z_shr0_nilf) ∧ (type_of% @z_shrK_nilf) ∧ (type_of% @z_shrKA_nilf) ∧ (type_of% @z_shrA_nilf) ∧ (type_of% @z_shrT_nilf) ∧ (type_of% @z_lb_nilf) ∧ (type_of% @z_ao_nilf) ∧ (type_of% @z_ic_nilf) ∧ (type_of% @z_cells_nilf) ∧ (type_of% @z_ie_nilf) ∧ (type_of% @z_shr0_agg) ∧ (type_of% @z_shrK_agg) ∧ (type_of% @z_shrKA_agg) ∧ (type_of% @z_shrA_agg) ∧ (type_of% @z_shrT_agg) ∧ (type_of% @z_lb_agg) ∧ (type_of% @z_ao_agg) ∧ (type_of% @z_ic_agg) ∧ (type_of% @z_cells_agg) ∧ (type_of% @z_ie_agg) ∧ (type_of% @z_shr0_tup) ∧ (type_of% @z_shrK_tup) ∧ (type_of% @z_shrKA_tup) ∧ (type_of% @z_shrA_tup) :=
  ⟨@z_shrA_asl, @z_shrT_asl, @z_lb_asl, @z_ao_asl, @z_ic_asl, @z_cells_asl, @z_shr0_fn, @z_shrK_fn, @z_shrKA_fn, @z_shrA_fn, @z_shrT_fn, @z_lb_fn, @z_ao_fn, @z_ic_fn, @z_cells_fn, @z_ie_fn, @z_shr0_nilf, @z_shrK_nilf, @z_shrKA_nilf, @z_shrA_nilf, @z_shrT_nilf, @z_lb_nilf, @z_ao_nilf, @z_ic_nilf, @z_cells_nilf, @z_ie_nilf, @z_shr0_agg, @z_shrK_agg, @z_shrKA_agg, @z_shrA_agg, @z_shrT_agg, @z_lb_agg, @z_ao_agg, @z_ic_agg, @z_cells_agg, @z_ie_agg, @z_shr0_tup, @z_shrK_tup, @z_shrKA_tup, @z_shrA_tup⟩
theorem zz4 : (type_of% @z_shrT_tup) ∧ (type_of% @z_lb_tup) ∧ (type_of% @z_ao_tup) ∧ (type_of% @z_ic_tup) ∧ (type_of% @z_cells_tup) ∧ (type_of% @z_ie_tup) ∧ (type_of% @z_shr0_junk) ∧ (type_of% @z_shrK_junk) ∧ (type_of% @z_shrKA_junk) ∧ (type_of% @z_shrA_junk) ∧ (type_of% @z_shrT_junk) ∧ (type_of% @z_lb_junk) ∧ (type_of% @z_ao_junk) ∧ (type_of% @z_ic_junk) ∧ (type_of% @z_cells_junk) ∧ (type_of% @z_ie_junk) ∧ (type_of% @z_shr0_lp) ∧ (type_of% @z_shrK_lp) ∧ (type_of% @z_shrKA_lp) ∧ (type_of% @z_shrA_lp) ∧ (type_of% @z_shrT_lp) ∧ (type_of% @z_lb_lp) ∧ (type_of% @z_ao_lp) ∧ (type_of% @z_ic_lp) ∧ (type_of% @z_cells_lp) ∧ (type_of% @z_ie_lp) ∧ (type_of% @z_shr0_lbox) ∧ (type_of% @z_shrK_lbox) ∧ (type_of% @z_shrKA_lbox) ∧ (type_of% @z_shrA_lbox) ∧ (type_of% @z_shrT_lbox) ∧ (type_of% @z_lb_lbox) ∧ (type_of% @z_ao_lbox) ∧ (type_of% @z_ic_lbox) ∧ (type_of% @z_cells_lbox) ∧ (type_of% @z_ie_lbox) ∧ (type_of% @z_ie_sl0) ∧ (type_of% @z_ie_sl1) ∧ (type_of% @z_ie_asl) ∧ (type_of% @Ap_none) :=
  ⟨@z_shrT_tup, @z_lb_tup, @z_ao_tup, @z_ic_tup, @z_cells_tup, @z_ie_tup, @z_shr0_junk, @z_shrK_junk, @z_shrKA_junk, @z_shrA_junk, @z_shrT_junk, @z_lb_junk, @z_ao_junk, @z_ic_junk, @z_cells_junk, @z_ie_junk, @z_shr0_lp, @z_shrK_lp, @z_shrKA_lp, @z_shrA_lp, @z_shrT_lp, @z_lb_lp, @z_ao_lp, @z_ic_lp, @z_cells_lp, @z_ie_lp, @z_shr0_lbox, @z_shrK_lbox, @z_shrKA_lbox, @z_shrA_lbox, @z_shrT_lbox, @z_lb_lbox, @z_ao_lbox, @z_ic_lbox, @z_cells_lbox, @z_ie_lbox, @z_ie_sl0, @z_ie_sl1, @z_ie_asl, @Ap_none⟩
theorem getD_live {H : Heap} {j : Nat} {cs : List TV} (h : live H j = some cs) : H.getD j [] = cs := by
  rw [List.getD_eq_getElem?_getD, (live_some h).1]; rfl
theorem getD_set {H : Heap} {j : Nat} {cs : List TV} (h : j < H.length) : (H.set j cs).getD j [] = cs := by
  rw [List.getD_eq_getElem?_getD, List.getElem?_set_self h]; rfl
theorem okb (b : List UInt8) : ((b.map tb).all fun e => e.cells.length == 1) = true := by simp [tb, TV.cells]
theorem lts_b (n : Nat) (b : List UInt8) : TV.lts n (b.map tb) = true := by
  induction b with
  | nil => rfl
  | cons a b ih => simp [TV.lts, TV.lt, tb, ih]
theorem lts_bs (n : Nat) (g : Tag) (b : List UInt8) : TV.lts n [.sl g (b.map tb)] = true := by simp [TV.lts, TV.lt, lts_b]
theorem trim_set {fz : Bool} {v : TV} {h : Heap} {i : Nat} {c : List TV} {k : Bool} : trim fz h.length ⟨v, h.set i c, k⟩ = ⟨v, h.set i c, k⟩ := by simp [trim]
theorem lts_nil (n : Nat) : TV.lts n [] = true := rfl
theorem trim_zero {fz : Bool} {v : TV} {k : Bool} : trim fz 0 ⟨v, [], k⟩ = ⟨v, [], k⟩ := rfl
theorem trim_one {fz : Bool} {b : Bool} {h : Heap} : trim fz 0 ⟨.bool b, h, false⟩ = ⟨.bool b, [], false⟩ := trim_in (h := []) (x := h) rfl rfl
@[congr] theorem Cnd_congr {v v' : Option TV} {A B : Prop} (h : v = v') : Cnd v A B = Cnd v' A B := by rw [h]
theorem set16 {x0 x1 x2 x3 x4 x5 x6 x7 x8 x9 x10 x11 x12 x13 x14 x15 : TV} {l : List TV} {n : Nat} {v : TV} : (x0 :: x1 :: x2 :: x3 :: x4 :: x5 :: x6 :: x7 :: x8 :: x9 :: x10 :: x11 :: x12 :: x13 :: x14 :: x15 :: l).set (n + 16) v = x0 :: x1 :: x2 :: x3 :: x4 :: x5 :: x6 :: x7 :: x8 :: x9 :: x10 :: x11 :: x12 :: x13 :: x14 :: x15 :: l.set n v := rfl
theorem sl16 {x0 x1 x2 x3 x4 x5 x6 x7 x8 x9 x10 x11 x12 x13 x14 x15 : TV} {l : List TV} {n : Nat} : sl (x0 :: x1 :: x2 :: x3 :: x4 :: x5 :: x6 :: x7 :: x8 :: x9 :: x10 :: x11 :: x12 :: x13 :: x14 :: x15 :: l) (n + 16) = sl l n := rfl
end Go.T
