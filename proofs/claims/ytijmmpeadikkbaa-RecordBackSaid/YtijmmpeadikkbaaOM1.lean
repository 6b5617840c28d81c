/- A part of the proofs: the small machine. -/
import Derived.Calls
import Derived.Below
import Derived.Laws.Sem
import Derived.Laws.Cells
import Derived.Laws.IdiomCopy
import Derived.Laws.Slices
import Derived.Laws.MakeOwn
import Derived.Deep.MidRow
import Derived.Deep.AppendSrc
import Derived.Laws.StructEq
/- A small deterministic machine over trees, for the functions of a loaded program: its values, its code, what it answers. Definitions alone. -/
namespace Go.T

/-- What is known of a slice beyond its elements: nothing; or that it may be appended to (its capacity is its length, or its tail is ours; s: its block is ours): the cells of an element. -/
inductive Tag where
  | shr
  | own (sz : Nat) (s : Bool)
  deriving DecidableEq, Repr, Inhabited

/-- A value. 'ptr i o': into the box i at cell o · 'cp': to cells that never change · 'lp t o': into the box that slot t holds · 'lbox': a slot's own box · 'sl g l': a slice that never changes below its length · 'nils': a slice that is nil · 'asl i o n': n elements of box i from cell o on · 'junk': anything. -/
inductive TV where
  | bool (b : Bool)
  | int (k : IntKind) (n : Int)
  | str (s : ByteArray)
  | ptr (i o : Nat)
  | nilp
  | nils
  | cp (cs : List TV)
  | lp (t o : Nat)
  | lbox (cs : List TV)
  | sl (g : Tag) (l : List TV)
  | asl (ag : Bool) (sz i o n : Nat)
  | fn (f : Nat) (cap : List TV)
  | nilf
  | agg (cs : List TV)
  | tup (vs : List TV)
  | junk
  deriving Inhabited

abbrev Heap := List (List TV)

/-- Its cells in memory. -/
def TV.cells : TV → List TV
  | .agg cs => cs
  | v => [v]
/-- May it be one cell of memory? -/
def TV.isCell : TV → Bool
  | .bool _ | .int .. | .str _ | .ptr .. | .nilp | .nils | .cp _ | .sl .. | .asl .. | .fn .. | .nilf => true
  | _ => false
/-- May it be one cell of an element of a slice? -/
def TV.isElt : TV → Bool
  | .sl (.own ..) _ => false
  | .asl .. => false
  | v => v.isCell
/-- Does it, one cell, own nothing? -/
def TV.noOwn : TV → Bool
  | .sl (.own ..) _ => false
  | _ => true
def TV.shr0 : TV → TV
  | .sl _ l => .sl .shr l
  | .nils => .sl .shr []
  | v => v
/-- The same, but that a slice that is nil is still known to be. -/
def TV.shrK : TV → TV
  | .sl _ l => .sl .shr l
  | v => v
def TV.shrKA : TV → TV
  | .agg cs => .agg (cs.map TV.shrK)
  | .tup _ => .junk
  | v => v.shrK
def TV.shrA : TV → TV
  | .agg cs => .agg (cs.map TV.shr0)
  | v => v.shr0
/-- The same, owning nothing. -/
def TV.shrT : TV → TV
  | .tup vs => .tup (vs.map TV.shrA)
  | v => v.shrA
mutual
/-- Does it lead to no box from number n on? -/
def TV.lt (n : Nat) : TV → Bool
  | .ptr i _ => decide (i < n)
  | .asl _ _ i _ _ => decide (i < n)
  | .cp cs | .agg cs | .tup cs => TV.lts n cs
  | .sl _ l => TV.lts n l
  | .fn _ cs => TV.lts n cs
  | .lp .. | .lbox _ | .junk => false
  | _ => true
def TV.lts (n : Nat) : List TV → Bool
  | [] => true
  | v :: vs => TV.lt n v && TV.lts n vs
end
mutual
def TV.beq : TV → TV → Bool
  | .bool a, .bool b => a == b
  | .int k n, .int k' n' => decide (k = k') && decide (n = n')
  | .str a, .str b => decide (a = b)
  | .ptr i o, .ptr i' o' => decide (i = i') && decide (o = o')
  | .nilp, .nilp | .nilf, .nilf | .junk, .junk | .nils, .nils => true
  | .cp l, .cp l' | .lbox l, .lbox l' | .agg l, .agg l' | .tup l, .tup l' => TV.beqs l l'
  | .lp i o, .lp i' o' => decide (i = i') && decide (o = o')
  | .sl g l, .sl g' l' => decide (g = g') && TV.beqs l l'
  | .asl a s i o n, .asl a' s' i' o' n' => decide (a = a') && decide (s = s') && decide (i = i') && decide (o = o') && decide (n = n')
  | .fn f l, .fn f' l' => decide (f = f') && TV.beqs l l'
  | _, _ => false
def TV.beqs : List TV → List TV → Bool
  | [], [] => true
  | a :: l, b :: l' => TV.beq a b && TV.beqs l l'
  | _, _ => false
end
def Heap.beq : Heap → Heap → Bool
  | [], [] => true
  | a :: l, b :: l' => TV.beqs a b && Heap.beq l l'
  | _, _ => false

/-- An operand: a slot or a value that is written out. -/
inductive Src where
  | s (t : Nat)
  | c (v : TV)
  deriving Inhabited

inductive TOp where
  | mv (tk : Bool) (x : Src)
  | mvk (x : Src)
  | pick (c a b : Src)
  | lbx (tk : Bool) (x : Src)
  | lal (z : List TV)
  | hbx (tk : Bool) (x : Src)
  | hal (z : List TV)
  | build (z : List TV) (ps : List (Nat × Nat × Src))
  | bsl (ag : Bool) (sz n : Nat) (z : List TV) (ps : List (Nat × Src))
  | bsr (ag : Bool) (sz n : Nat) (z : List TV) (ps : List (Nat × Src))
  | ldl (tk : Bool) (ag : Bool) (n : Nat) (b : Nat) (p : Src)
  | ldh (tk : Bool) (ag : Bool) (n : Nat) (p : Src)
  | ldk (ag : Bool) (n : Nat) (p : Src)
  | ldr (ag : Bool) (n : Nat) (r p : Src)
  | ldc (ag : Bool) (n : Nat) (p : Src)
  | stl (tk : Bool) (n : Nat) (b : Nat) (p x : Src)
  | sth (tk : Bool) (n : Nat) (p x : Src)
  | nilc (x : Src)
  | ar (op : BinOp) (x y : Src)
  | eqb (neg : Bool) (x y : Src)
  | eqp (neg : Bool) (x y : Src)
  | eqs (neg : Bool) (fs : List (Nat × Nat)) (x y : Src)
  | not (x : Src)
  | neg (x : Src)
  | cvi (k : IntKind) (x : Src)
  | cvt (x : Src)
  | cvs (x : Src)
  | cvb (x : Src)
  | cvx (x : Src)
  | mkf (f : Nat) (cs : List Src)
  | mks (ag : Bool) (sz bytes : Nat) (z : List TV) (l c : Src)
  | slc (sz : Nat) (x : Src) (lo hi mx : Option Src)
  | slx (sz : Nat) (x : Src) (lo hi : Option Src)
  | sls (x : Src) (lo hi : Option Src)
  | fa (off : Nat) (x : Src)
  | fld (ag : Bool) (n off : Nat) (x : Src)
  | ia (sz : Nat) (x i : Src)
  | sx (x i : Src)
  | ext (tk : Bool) (i : Nat) (x : Src)
  | call (pu : Nat) (f : Nat) (as : List (Bool × Src))
  | callv (pu : Nat) (x : Src) (as : List (Bool × Src))
  | calk (ks : List Src) (x : Src) (as : List (Bool × Src))
  | len (str : Bool) (x : Src)
  | app (tk : Bool) (sz bytes : Nat) (x y : Src)
  | apr (ag : Bool) (sz bytes : Nat) (x y : Src)
  | clr (z : List TV) (x : Src)
  | cpy (sz : Nat) (x y : Src)
  | mn (x y : Src)
  | mx (x y : Src)
  deriving Inhabited

structure TOper where
  d : Option Nat
  op : TOp
  g : Option (Nat × Bool)
  deriving Inhabited

inductive TC where
  | skip
  | reg (ops : List TOper) (kill : List Nat)
  | seq (a b : TC)
  | cond (c : Src) (a b : TC)
  | block (id : Nat) (body : TC)
  | loop (body : TC)
  | exit (id : Nat)
  | ret
  deriving Inhabited

inductive TRes where
  | tmp (t : Nat)
  | cell (t : Nat) (ag : Bool) (n : Nat)
  deriving Inhabited

structure TF where
  ntmps : Nat
  res : List TRes
  body : TC
  fz : Bool := true
  deriving Inhabited

/-- A frame's state: its slots, the boxes, how many boxes there were at its beginning, does an older box lead to a younger one? -/
structure St where
  t : List TV
  h : Heap
  base : Nat
  keep : Bool

structure Ret where
  r : TV
  h : Heap
  kp : Bool

abbrev CallF := Nat → List TV → Heap → Option Ret

/-- What an operation does: its value; the slots whose tags it takes; a slot's box that it writes; the boxes; are the pointers into the box of its own slot stale? -/
structure Dl where
  v : TV
  tk : List Nat := []
  bw : Option (Nat × TV) := none
  hw : Option (Heap × Bool) := none
  jl : Bool := false

section
variable (t : List TV)
def sl (i : Nat) : TV := t.getD i .junk
/-- An operand's value, owning nothing; none: a box of this frame. -/
def ev : Src → Option TV
  | .s i => match sl t i with
    | .lbox _ | .lp .. => none
    | v => some v.shrT
  | .c v => some v.shrT
/-- An operand's value; taken with what it owns. -/
def tak (tk : Bool) : Src → Option (TV × List Nat)
  | .s i => match sl t i with
    | .lbox _ | .lp .. => none
    | v => if tk then some (v, [i]) else some (v.shrT, [])
  | .c v => if tk then some (v, []) else some (v.shrT, [])
/-- An operand as an address. -/
def ad : Src → TV
  | .s i => match sl t i with
    | .lbox _ => .lp i 0
    | v => v
  | .c v => v
def evs : List Src → Option (List TV)
  | [] => some []
  | x :: xs => match ev t x, evs xs with
    | some v, some vs => some (v :: vs)
    | _, _ => none
def taks : List (Bool × Src) → Option (List TV × List Nat)
  | [] => some ([], [])
  | (b, x) :: xs => match tak t b x, taks xs with
    | some (v, i), some (vs, is) => if i.any (fun j => is.contains j) then none else some (v :: vs, i ++ is)
    | _, _ => none
end
/-- n cells from cell o on. -/
def cut (cs : List TV) (o n : Nat) : Option (List TV) := if o + n ≤ cs.length then some ((cs.drop o).take n) else none
/-- The cells from cell o on, other ones. -/
def splice (cs : List TV) (o : Nat) (vs : List TV) : List TV := cs.take o ++ (vs ++ cs.drop (o + vs.length))
def pack (ag : Bool) (cs : List TV) : TV := if ag then .agg cs else cs.headD .junk
/-- A box that nobody may look into any more. -/
def dead (cs : List TV) : Bool := match cs with
  | [.tup []] => true
  | _ => false
def live (h : Heap) (i : Nat) : Option (List TV) := match h[i]? with
  | some cs => if dead cs then none else some cs
  | none => none
def getH (h : Heap) (p : TV) (n : Nat) : Option (List TV) :=
  match p with
  | .ptr i o => match live h i with
    | some cs => cut cs o n
    | none => none
  | .cp cs => cut cs 0 n
  | _ => none
def intOf : TV → Option Int
  | .int _ n => some n
  | _ => none
/-- Parts laid over cells: at which cell, how many, what. -/
def fillP (t : List TV) : List (Nat × Nat × Src) → List TV → Option (List TV)
  | [], cs => some cs
  | (o, n, x) :: ps, cs => match ev t x with
    | some v => if v.cells.length = n ∧ o + n ≤ cs.length ∧ v.cells.all TV.isCell then fillP t ps (splice cs o v.cells) else none
    | none => none
/-- Elements: each of the right form. -/
def okE (ag : Bool) (sz : Nat) (v : TV) : Bool := (match v with | .agg cs => ag && decide (cs.length = sz) && cs.all TV.isElt | v => !ag && decide (sz = 1) && v.isElt)
def fillE (t : List TV) (ag : Bool) (sz : Nat) : List (Nat × Src) → List TV → Option (List TV)
  | [], es => some es
  | (i, x) :: ps, es => match ev t x with
    | some v => if i < es.length ∧ okE ag sz v then fillE t ag sz ps (es.set i v) else none
    | none => none
/-- What is shared of a slice's elements as cells, and back. -/
def flat (l : List TV) : List TV := l.flatMap TV.cells
def regroup (ag : Bool) (sz : Nat) : Nat → List TV → List TV
  | 0, _ => []
  | n + 1, cs => pack ag (cs.take sz) :: regroup ag sz n (cs.drop sz)
/-- The elements of a slice. -/
def elS (h : Heap) : TV → Option (List TV)
  | .sl _ l => some l
  | .nils => some []
  | .asl ag sz i o n => match live h i with
    | some cs => match cut cs o (n * sz) with
      | some vs => if (vs.map TV.shr0).all TV.isElt && decide (0 < sz) && (ag || decide (sz = 1)) then some (regroup ag sz n (vs.map TV.shr0)) else none
      | none => none
    | none => none
  | _ => none
def byteOf : TV → UInt8
  | .int _ n => UInt8.ofNat n.toNat
  | _ => 0
def isByte : TV → Bool
  | .int .u8 _ => true
  | _ => false
def ofBytes (s : ByteArray) : List TV := s.data.toList.map fun b => .int .u8 b.toNat
def arith (op : BinOp) (x y : TV) : Option TV :=
  match op, x, y with
  | .shl, .int k a, .int _ b => if b < 0 then none else some (.int k (k.wrap (a * 2 ^ (min b.toNat k.bits))))
  | .shr, .int k a, .int _ b => if b < 0 then none else some (.int k (a.fdiv (2 ^ (min b.toNat k.bits))))
  | .add, .int k a, .int k' b => if k = k' then some (.int k (k.wrap (a + b))) else none
  | .sub, .int k a, .int k' b => if k = k' then some (.int k (k.wrap (a - b))) else none
  | .mul, .int k a, .int k' b => if k = k' then some (.int k (k.wrap (a * b))) else none
  | .quo, .int k a, .int k' b => if k = k' ∧ b ≠ 0 then some (.int k (k.wrap (a.tdiv b))) else none
  | .rem, .int k a, .int k' b => if k = k' ∧ b ≠ 0 then some (.int k (a.tmod b)) else none
  | .and, .int k a, .int k' b => if k = k' then some (.int k (k.wrap (BitVec.ofInt k.bits a &&& BitVec.ofInt k.bits b).toNat)) else none
  | .or, .int k a, .int k' b => if k = k' then some (.int k (k.wrap (BitVec.ofInt k.bits a ||| BitVec.ofInt k.bits b).toNat)) else none
  | .xor, .int k a, .int k' b => if k = k' then some (.int k (k.wrap (BitVec.ofInt k.bits a ^^^ BitVec.ofInt k.bits b).toNat)) else none
  | .andNot, .int k a, .int k' b => if k = k' then some (.int k (k.wrap (BitVec.ofInt k.bits a &&& ~~~BitVec.ofInt k.bits b).toNat)) else none
  | .eql, .int k a, .int k' b => if k = k' then some (.bool (a == b)) else none
  | .neq, .int k a, .int k' b => if k = k' then some (.bool (a != b)) else none
  | .lss, .int k a, .int k' b => if k = k' then some (.bool (decide (a < b))) else none
  | .leq, .int k a, .int k' b => if k = k' then some (.bool (decide (a ≤ b))) else none
  | .gtr, .int k a, .int k' b => if k = k' then some (.bool (decide (a > b))) else none
  | .geq, .int k a, .int k' b => if k = k' then some (.bool (decide (a ≥ b))) else none
  | .add, .str a, .str b => if ((a.size + b.size : Nat) : Int) > IntKind.i64.max then none else some (.str (a ++ b))
  | .eql, .str a, .str b => some (.bool (decide (a = b)))
  | .neq, .str a, .str b => some (.bool !(decide (a = b)))
  | .lss, .str a, .str b => some (.bool (Op.bytesLess a.toList b.toList))
  | .leq, .str a, .str b => some (.bool (Op.bytesLess a.toList b.toList || decide (a = b)))
  | .gtr, .str a, .str b => some (.bool !(Op.bytesLess a.toList b.toList || decide (a = b)))
  | .geq, .str a, .str b => some (.bool !(Op.bytesLess a.toList b.toList))
  | _, _, _ => none
def eqCell : Nat → TV → TV → Option Bool
  | 0, .int k a, .int k' b => if k = k' then some (a == b) else none
  | 1, .bool a, .bool b => some (a == b)
  | 2, .str a, .str b => some (decide (a = b))
  | _, _, _ => none
def eqCells (xs ys : List TV) : List (Nat × Nat) → Option Bool
  | [] => some true
  | (o, k) :: os => match xs[o]?, ys[o]? with
    | some x, some y => match eqCell k x y with
      | some true => eqCells xs ys os
      | some false => some false
      | none => none
    | _, _ => none
/-- A bound of x[lo:hi:mx]. -/
def bound (t : List TV) (x : Option Src) (dflt most : Nat) : Option Nat :=
  match x with
  | none => some dflt
  | some x => match ev t x with
    | some (.int _ n) => if 0 ≤ n ∧ n ≤ (most : Int) then some n.toNat else none
    | _ => none
/-- Would the new cells of box i make an older box lead to a younger one? -/
def keeps (st : St) (i : Nat) (vs : List TV) : Bool := st.keep || !(TV.lts (i + 1) vs)
/-- Each element has so many cells. -/
def okW (sz : Nat) (l : List TV) : Bool := l.all fun e => e.cells.length == sz
def zeros (ag : Bool) (z : List TV) (n : Nat) : List TV := List.replicate n (pack ag z)
def roomB : Nat := 140737488355328
def argOk (v : TV) : Bool := match v with | .agg cs => cs.all TV.isCell | v => v.isCell
/-- A row that was made since there were 'base' boxes, as a slice that never changes again. -/
def frzC (h : Heap) (base : Nat) : TV → TV
  | .asl ag sz i o n => match live h i with
    | some cs => if o = 0 ∧ base ≤ i ∧ n * sz ≤ cs.length ∧ ((cs.take (n * sz)).map TV.shr0).all TV.isElt ∧ 0 < sz ∧ (ag = true ∨ sz = 1) then .sl (.own sz false) (regroup ag sz n (cs.map TV.shr0)) else .asl ag sz i o n
    | none => .asl ag sz i o n
  | v => v
def frzA (h : Heap) (base : Nat) : TV → TV
  | .agg cs => .agg (cs.map (frzC h base))
  | v => frzC h base v
def frzT (h : Heap) (base : Nat) : TV → TV
  | .tup vs => .tup (vs.map (frzA h base))
  | v => frzA h base v
/-- The boxes from 'base' on of which a value holds rows. -/
def rowC (base : Nat) : TV → List Nat
  | .asl _ _ i _ _ => if base ≤ i then [i] else []
  | _ => []
def rowA (base : Nat) : TV → List Nat
  | .agg cs => cs.flatMap (rowC base)
  | v => rowC base v
def rowT (base : Nat) : TV → List Nat
  | .tup vs => vs.flatMap (rowA base)
  | v => rowA base v
/-- An answer without the boxes that were made since, where nothing leads to them. -/
def trim (fz : Bool) (base : Nat) (r : Ret) : Ret :=
  if r.h.length = base then r
  else if r.kp then r
  else
    let u := if fz && decide ((rowT base r.r).length ≤ 1) then frzT r.h base r.r else r.r
    if TV.lt base u then ⟨u, r.h.take base, false⟩ else r
/-- A call and what becomes of it. 0: it may write the boxes; 1: it leaves them as they are; 2: it doesn't look at them; 3: its new rows are frozen; 4: they are, and it leaves the boxes as they are; 5: they are, and it doesn't look at the boxes. -/
def callD (call : CallF) (pu : Nat) (st : St) (tk : List Nat) (f : Nat) (vs : List TV) : Option Dl :=
  if vs.all argOk then
    match pu with
    | 0 => match call f vs st.h with
      | some r => some { v := r.r, tk := tk, hw := some (r.h, st.keep || r.kp) }
      | none => none
    | 1 => match call f vs st.h with
      | some r => if Heap.beq r.h st.h then some { v := r.r, tk := tk } else none
      | none => none
    | 3 => match call f vs st.h with
      | some r => some { v := (trim true st.h.length r).r, tk := tk, hw := some ((trim true st.h.length r).h, st.keep || (trim true st.h.length r).kp) }
      | none => none
    | 4 => match call f vs st.h with
      | some r => if Heap.beq (trim true st.h.length r).h st.h then some { v := (trim true st.h.length r).r, tk := tk } else none
      | none => none
    | 5 => if TV.lts 0 vs then match call f vs [] with
      | some r => if (trim true 0 r).h.length = 0 then some { v := (trim true 0 r).r, tk := tk } else none
      | none => none
      else none
    | _ => if TV.lts 0 vs then match call f vs [] with
      | some ⟨v, [], _⟩ => some { v := v, tk := tk }
      | _ => none
      else none
  else none

/-- Are the boxes to which these operands point as they were? -/
def keptB (t : List TV) (h h' : Heap) : List Src → Bool
  | [] => true
  | p :: ps => (match ad t p with
    | .ptr i _ => decide (i < h.length) && decide (i < h'.length) && TV.beqs (h'.getD i []) (h.getD i [])
    | .cp _ => true
    | _ => false) && keptB t h h' ps
/-- What is appended, or copied: a slice's elements, a text's bytes. -/
def srcS (h : Heap) (sz : Nat) : Option TV → Option (List TV)
  | some (.str s) => if sz = 1 then some (ofBytes s) else none
  | some v => elS h v
  | none => none
/-- What an operation does in a state. -/
def delta (call : CallF) (st : St) : TOp → Option Dl
  | .mv tk x => match tak st.t tk x with
    | some (v, i) => some { v := v, tk := i }
    | none => none
  | .mvk x => match tak st.t true x with
    | some (v, _) => some { v := v.shrKA }
    | none => none
  | .pick c a b => match ev st.t c, ev st.t a, ev st.t b with
    | some (.bool c), some a, some b => some { v := if c then a else b }
    | _, _, _ => none
  | .lbx tk x => match tak st.t tk x with
    | some (v, i) => if argOk v then some { v := .lbox v.cells, tk := i, jl := true } else none
    | none => none
  | .lal z => some { v := .lbox z, jl := true }
  | .hbx tk x => match tak st.t tk x with
    | some (v, i) => if argOk v then some { v := .ptr st.h.length 0, tk := i, hw := some (st.h ++ [v.cells], st.keep) } else none
    | none => none
  | .hal z => some { v := .ptr st.h.length 0, hw := some (st.h ++ [z], st.keep) }
  | .build z ps => match fillP st.t ps z with
    | some cs => some { v := .agg cs }
    | none => none
  | .bsl ag sz n z ps => match fillE st.t ag sz ps (zeros ag z n) with
    | some es => some { v := .sl (.own sz true) es }
    | none => none
  | .bsr ag sz n z ps => match fillE st.t ag sz ps (zeros ag z n) with
    | some es => some { v := .asl ag sz st.h.length 0 n, hw := some (st.h ++ [flat es], st.keep) }
    | none => none
  | .ldl tk ag n b p => match ad st.t p with
    | .lp b' o => if b' = b then match sl st.t b with
      | .lbox cs => match cut cs o n with
        | some vs => if tk then some { v := pack ag vs, bw := some (b, .lbox (splice cs o (vs.map TV.shr0))) } else some { v := pack ag (vs.map TV.shr0) }
        | none => none
      | _ => none
      else none
    | _ => none
  | .ldh tk ag n p => match getH st.h (ad st.t p) n with
    | some vs => if tk then match ad st.t p with
        | .ptr i o => some { v := pack ag vs, hw := some (st.h.set i (splice (st.h.getD i []) o (vs.map TV.shr0)), st.keep) }
        | _ => none
      else some { v := pack ag (vs.map TV.shr0) }
    | none => none
  | .ldk ag n p => match getH st.h (ad st.t p) n with
    | some vs => some { v := pack ag (vs.map TV.shrK) }
    | none => none
  | .ldr ag n r p => match ad st.t r, ad st.t p with
    | .ptr i _, .ptr j _ => if i = j then match getH st.h (ad st.t p) n with
      | some vs => some { v := pack ag (vs.map TV.shrK) }
      | none => none
      else none
    | _, _ => none
  | .ldc ag n p => match ad st.t p with
    | .cp cs => match cut cs 0 n with
      | some vs => some { v := pack ag (vs.map TV.shr0) }
      | none => none
    | _ => none
  | .stl tk n b p x => match ad st.t p, tak st.t tk x with
    | .lp b' o, some (v, i) => if b' = b ∧ v.cells.length = n ∧ argOk v then match sl st.t b with
      | .lbox cs => if o + n ≤ cs.length then some { v := .tup [], tk := i, bw := some (b, .lbox (splice cs o v.cells)) } else none
      | _ => none
      else none
    | _, _ => none
  | .sth tk n p x => match ad st.t p, tak st.t tk x with
    | .ptr i o, some (v, j) => if v.cells.length = n ∧ argOk v then match live st.h i with
      | some cs => if o + n ≤ cs.length then some { v := .tup [], tk := j, hw := some (st.h.set i (splice cs o v.cells), keeps st i v.cells) } else none
      | none => none
      else none
    | _, _ => none
  | .nilc x => match ad st.t x with
    | .ptr i o => some { v := .ptr i o }
    | .cp cs => some { v := .cp cs }
    | .lp b o => match sl st.t b with
      | .lbox _ => some { v := .lp b o }
      | _ => none
    | .fn f cs => some { v := .fn f cs }
    | _ => none
  | .ar op x y => match ev st.t x, ev st.t y with
    | some a, some b => match arith op a b with
      | some v => some { v := v }
      | none => none
    | _, _ => none
  | .eqb neg x y => match ev st.t x, ev st.t y with
    | some (.bool a), some (.bool b) => some { v := .bool (if neg then !(a == b) else a == b) }
    | _, _ => none
  | .eqp neg x y => match ev st.t x, ev st.t y with
    | some .nilp, some .nilp => some { v := .bool (if neg then false else true) }
    | some .nilp, some (.ptr ..) | some (.ptr ..), some .nilp | some .nilp, some (.cp _) | some (.cp _), some .nilp => some { v := .bool (if neg then true else false) }
    | _, _ => none
  | .eqs neg fs x y => match ev st.t x, ev st.t y with
    | some (.agg a), some (.agg b) => match eqCells a b fs with
      | some r => some { v := .bool (if neg then !r else r) }
      | none => none
    | _, _ => none
  | .not x => match ev st.t x with
    | some (.bool b) => some { v := .bool !b }
    | _ => none
  | .neg x => match ev st.t x with
    | some (.int k n) => some { v := .int k (k.wrap (0 - n)) }
    | _ => none
  | .cvi k x => match ev st.t x with
    | some (.int _ n) => some { v := .int k (k.wrap n) }
    | _ => none
  | .cvt x => match ev st.t x with
    | some (.str s) => some { v := .str s }
    | _ => none
  | .cvs x => match ev st.t x with
    | some v => match elS st.h v with
      | some l => if l.all isByte then some { v := .str ⟨(l.map byteOf).toArray⟩ } else none
      | none => none
    | none => none
  | .cvb x => match ev st.t x with
    | some (.str s) => if s.size ≤ roomB then some { v := .sl (.own 1 false) (ofBytes s) } else none
    | _ => none
  | .cvx x => match tak st.t true x with
    | some (.sl (.own n true) l, i) => some { v := .sl (.own n true) l, tk := i }
    | _ => none
  | .mkf f cs => match evs st.t cs with
    | some vs => if vs.all (fun v => v.isCell && v.noOwn) then some { v := .fn f vs } else none
    | none => none
  | .mks ag sz bytes z l c => match ev st.t l, ev st.t c with
    | some (.int _ l), some (.int _ c) => if 0 ≤ l ∧ l ≤ c ∧ c.toNat * bytes ≤ roomB ∧ c ≤ 9223372036854775807 then
        some { v := .asl ag sz st.h.length 0 l.toNat, hw := some (st.h ++ [flat (zeros ag z c.toNat)], st.keep) } else none
    | _, _ => none
  | .slc sz x lo hi mx => match ev st.t x with
    | some (.sl _ l) => if okW sz l = true then match bound st.t mx l.length l.length with
      | some m => match bound st.t hi l.length m with
        | some h => match bound st.t lo 0 h with
          | some a => some { v := .sl (if mx.isSome = true ∧ m = h then .own sz false else .shr) ((l.take h).drop a) }
          | none => none
        | none => none
      | none => none
      else none
    | some (.asl ag s i o n) => if s = sz then match bound st.t mx n n with
      | some m => match bound st.t hi n m with
        | some h => match bound st.t lo 0 h with
          | some a => if mx.isSome then some { v := .junk } else if h - a = 0 ∧ a ≠ 0 then some { v := .sl .shr [] } else some { v := .asl ag s i (o + a * s) (h - a) }
          | none => none
        | none => none
      | none => none
      else none
    | _ => none
  | .slx sz x lo hi => match ev st.t x with
    | some (.asl ag s i o n) => match live st.h i with
      | some cs => if s = sz ∧ o ≤ cs.length ∧ 0 < s ∧ n ≤ (cs.length - o) / s then match bound st.t hi n ((cs.length - o) / s) with
        | some h => match bound st.t lo 0 h with
          | some a => if h - a = 0 ∧ a ≠ 0 then some { v := .sl .shr [] } else if h ≤ roomB then some { v := .asl ag s i (o + a * s) (h - a) } else none
          | none => none
        | none => none
        else none
      | none => none
    | some (.sl _ []) => match bound st.t hi 0 0 with
      | some _ => match bound st.t lo 0 0 with
        | some _ => some { v := .sl .shr [] }
        | none => none
      | none => none
    | _ => none
  | .sls x lo hi => match ev st.t x with
    | some (.str s) => match bound st.t hi s.size s.size with
      | some h => match bound st.t lo 0 h with
        | some a => some { v := .str (s.extract a h) }
        | none => none
      | none => none
    | _ => none
  | .fa off x => match ad st.t x with
    | .ptr i o => some { v := .ptr i (o + off) }
    | .cp cs => some { v := .cp (cs.drop off) }
    | .lp b o => match sl st.t b with
      | .lbox _ => some { v := .lp b (o + off) }
      | _ => none
    | _ => none
  | .fld ag n off x => match ev st.t x with
    | some (.agg cs) => match cut cs off n with
      | some vs => some { v := pack ag vs }
      | none => none
    | _ => none
  | .ia sz x i => match ev st.t x, ev st.t i with
    | some (.sl _ l), some (.int _ n) => if 0 ≤ n then match l[n.toNat]? with
        | some e => if e.cells.length = sz then some { v := .cp e.cells } else none
        | none => none
      else none
    | some (.asl _ s b o m), some (.int _ n) => if 0 ≤ n ∧ n < (m : Int) ∧ s = sz then some { v := .ptr b (o + n.toNat * sz) } else none
    | _, _ => none
  | .sx x i => match ev st.t x, ev st.t i with
    | some (.str s), some (.int _ n) => if 0 ≤ n then match s.data[n.toNat]? with
        | some b => some { v := .int .u8 b.toNat }
        | none => none
      else none
    | _, _ => none
  | .ext tk i x => match x with
    | .s j => match sl st.t j with
      | .tup vs => match vs[i]? with
        | some v => if tk then some { v := v, bw := some (j, .tup (vs.set i v.shrA)) } else some { v := v.shrA }
        | none => none
      | _ => none
    | _ => none
  | .call pu f as => match taks st.t as with
    | some (vs, tk) => callD call pu st tk f vs
    | none => none
  | .callv pu x as => match ev st.t x, taks st.t as with
    | some (.fn f cs), some (vs, tk) => callD call pu st tk f (vs ++ cs)
    | _, _ => none
  | .calk ks x as => match ev st.t x, taks st.t as with
    | some (.fn f cs), some (vs, tk) => match callD call 0 st tk f (vs ++ cs) with
      | some d => if keptB st.t st.h (match d.hw with | some (h, _) => h | none => st.h) ks then some d else none
      | none => none
    | _, _ => none
  | .len b x => match ev st.t x with
    | some (.str s) => if b then some { v := .int .i64 s.size } else none
    | some (.sl _ l) => if b then none else some { v := .int .i64 l.length }
    | some (.asl _ _ _ _ n) => if b then none else some { v := .int .i64 n }
    | _ => none
  | .app tk sz bytes x y => match tak st.t tk x, srcS st.h sz (ev st.t y) with
    | some (.sl (.own n _) l, i), some l2 => if n = sz ∧ okW sz l2 = true ∧ okW sz l = true ∧ (l.length + l2.length) * bytes ≤ roomB ∧ l.length + l2.length ≤ roomB then
        some { v := .sl (.own sz false) (l ++ l2), tk := i } else none
    | some (.nils, i), some l2 => if okW sz l2 = true ∧ l2.length * bytes ≤ roomB ∧ l2.length ≤ roomB then
        some { v := .sl (.own sz false) l2, tk := i } else none
    | _, _ => none
  | .apr ag sz bytes x y => match tak st.t true x, srcS st.h sz (ev st.t y) with
    | some (.nils, i), some l2 => if okW sz l2 = true ∧ l2.length * bytes ≤ roomB ∧ l2.length ≤ roomB then
        (if l2.length = 0 then some { v := .nils, tk := i } else some { v := .asl ag sz st.h.length 0 l2.length, tk := i, hw := some (st.h ++ [flat l2], st.keep) }) else none
    | some (.asl _ s b o n, i), some l2 => match live st.h b with
      | some cs => if s = sz ∧ o = 0 ∧ n * sz ≤ cs.length ∧ okW sz l2 = true ∧ (n + l2.length) * bytes ≤ roomB ∧ n + l2.length ≤ roomB then
        (if l2.length = 0 then some { v := .asl ag sz b o n, tk := i }
         else if (n + l2.length) * sz ≤ cs.length then some { v := .asl ag sz b 0 (n + l2.length), tk := i, hw := some (st.h.set b (splice cs (n * sz) (flat l2)), keeps st b l2) }
         else some { v := .asl ag sz st.h.length 0 (n + l2.length), tk := i, hw := some (st.h.set b [.tup []] ++ [(cs.take (n * sz)).map TV.shr0 ++ flat l2], st.keep) }) else none
      | none => none
    | _, _ => none
  | .clr z x => match ev st.t x with
    | some (.sl _ []) => some { v := .tup [] }
    | some (.asl _ s i o n) => match live st.h i with
      | some cs => if s = z.length ∧ o + n * s ≤ cs.length ∧ TV.lts 0 z then some { v := .tup [], hw := some (st.h.set i (splice cs o (flat (List.replicate n (.agg z)))), st.keep) } else none
      | none => none
    | _ => none
  | .cpy sz x y => match ev st.t x, (ev st.t y).bind (elS st.h) with
    | some (.asl _ s i o n), some l => match live st.h i with
      | some cs => if s = sz ∧ o + n * s ≤ cs.length ∧ okW sz l = true then
        some { v := .int .i64 (min l.length n : Nat), hw := some (st.h.set i (splice cs o (flat (l.take n))), keeps st i l) } else none
      | none => none
    | _, _ => none
  | .mn x y => match ev st.t x, ev st.t y with
    | some (.int k a), some (.int _ b) => some { v := .int k (if b < a then b else a) }
    | _, _ => none
  | .mx x y => match ev st.t x, ev st.t y with
    | some (.int k a), some (.int _ b) => some { v := .int k (if b > a then b else a) }
    | _, _ => none

def isLp (b : Nat) : TV → Bool
  | .lp b' _ => b' == b
  | _ => false
/-- The slots behind an operation. -/
def Dl.slots (d : Dl) (dst : Option Nat) (t : List TV) : List TV :=
  let t := d.tk.foldl (fun t i => t.set i (sl t i).shrT) t
  let t := match d.bw with
    | some (b, u) => t.set b u
    | none => t
  match dst with
  | some i => (if d.jl then t.map (fun v => if isLp i v then .junk else v) else t).set i d.v
  | none => t
def Dl.ap (d : Dl) (dst : Option Nat) (st : St) : St :=
  { st with t := d.slots dst st.t, h := (match d.hw with | some (h, _) => h | none => st.h), keep := (match d.hw with | some (_, k) => k | none => st.keep) }
/-- Is an operation with a guard carried out? -/
def wanted (t : List TV) : Option (Nat × Bool) → Option Bool
  | none => some true
  | some (g, want) => match sl t g with
    | .bool b => some (b == want)
    | .tup [] => some false
    | _ => none
/-- What an operation does, with its guard. -/
def dlt (call : CallF) (o : TOper) (st : St) : Option Dl :=
  match wanted st.t o.g with
  | some true => delta call st o.op
  | some false => some { v := .tup [] }
  | none => none
def isLb : TV → Bool
  | .lbox _ => true
  | _ => false
/-- May the slot be written? A slot's own box gives way to another box alone. -/
def okD (t : List TV) (dst : Option Nat) (d : Dl) : Bool := match dst with
  | some i => d.jl || (!isLb (sl t i) && !isLb d.v)
  | none => true
def step (call : CallF) (o : TOper) (st : St) : Option St :=
  match dlt call o st with
  | some d => if okD st.t o.d d then some (d.ap o.d st) else none
  | none => none
def steps (call : CallF) : List TOper → St → Option St
  | [], st => some st
  | o :: os, st => match step call o st with
    | some st' => steps call os st'
    | none => none
def St.kill (st : St) (ks : List Nat) : St := { st with t := ks.foldl (fun t i => t.set i .junk) st.t }

inductive Ex where
  | norm | ret | ex (id : Nat)
  deriving DecidableEq, Inhabited
def loopN (f : St → Option (Ex × St)) : Nat → St → Option (Ex × St)
  | 0, _ => none
  | k + 1, st => match f st with
    | some (.norm, st') => loopN f k st'
    | r => r
def exec (call : CallF) (k : Nat) : TC → St → Option (Ex × St)
  | .skip, st => some (.norm, st)
  | .reg ops kill, st => match steps call ops st with
    | some st' => some (.norm, st'.kill kill)
    | none => none
  | .seq a b, st => match exec call k a st with
    | some (.norm, st') => exec call k b st'
    | r => r
  | .cond c a b, st => match ev st.t c with
    | some (.bool true) => exec call k a st
    | some (.bool false) => exec call k b st
    | _ => none
  | .block id body, st => match exec call k body st with
    | some (.ex id', st') => if id' = id then some (.norm, st') else some (.ex id', st')
    | r => r
  | .loop body, st => loopN (exec call k body) k st
  | .exit id, st => some (.ex id, st)
  | .ret, st => some (.ret, st)

def resOf (st : St) : TRes → Option TV
  | .tmp i => match sl st.t i with
    | .lbox _ | .lp .. => none
    | v => if argOk v then some v else none
  | .cell i ag n => match sl st.t i with
    | .lbox cs => match cut cs 0 n with
      | some vs => some (pack ag vs)
      | none => none
    | .ptr b o => match getH st.h (.ptr b o) n with
      | some vs => some (pack ag (vs.map TV.shr0))
      | none => none
    | _ => none
def ress (st : St) : List TRes → Option (List TV)
  | [] => some []
  | r :: rs => match resOf st r, ress st rs with
    | some v, some vs => some (v :: vs)
    | _, _ => none
def one (vs : List TV) : TV := match vs with | [v] => v | vs => .tup vs
def slotsDistinct : List TRes → List Nat → Bool
  | [], _ => true
  | .tmp i :: rs, seen => !seen.contains i && slotsDistinct rs (i :: seen)
  | .cell i _ _ :: rs, seen => !seen.contains i && slotsDistinct rs (i :: seen)
def finish (fz : Bool) (rs : List TRes) (st : St) : Option Ret :=
  match ress st rs with
  | none => none
  | some vs => some (trim fz st.base ⟨one vs, st.h, st.keep⟩)

/-- A call, to the depth n. 'tab': the functions' codes; 'ext': functions whose answers a proof by hand gives. -/
def callN (tab : Nat → Option TF) (ext : Nat → Option CallF) : Nat → CallF
  | 0, _, _, _ => none
  | n + 1, f, as, h => match ext f with
    | some c => c f as h
    | none => match tab f with
      | none => none
      | some tf => match exec (callN tab ext n) n tf.body ⟨as ++ List.replicate (tf.ntmps - as.length) (.tup []), h, h.length, false⟩ with
        | some (.ex _, _) => none
        | some (_, st) => finish tf.fz tf.res st
        | none => none
end Go.T
/- Does a code of the small machine tell a function of a loaded program? A function that the kernel runs. -/
namespace Go.T

def cval : Value → TV → Bool
  | .bool a, .bool b => a == b
  | .int k n, .int k' n' => decide (k = k') && decide (n = n')
  | .string s, .str s' => decide (s = s')
  | .pointer none, .nilp => true
  | .slice none 0 0, .nils => true
  | .slice none 0 0, .sl .shr [] => true
  | .slice none 0 0, .sl (.own n false) [] => decide (0 < n)
  | .nilFunc, .nilf => true
  | .func (.func f) a b, .fn f' [] => decide (f = f') && decide (a.size = 0) && decide (b.size = 0)
  | _, _ => false
def cvals : List Value → List TV → Bool
  | [], [] => true
  | v :: vs, x :: xs => cval v x && cvals vs xs
  | _, _ => false
def cvalA : Value → TV → Bool
  | .agg cs, .agg xs => cvals cs.toList xs
  | v, x => cval v x
def chkS : Operand → Src → Bool
  | .tmp t, .s t' => t == t'
  | .const v, .c x => cvalA v x
  | .func f, .c (.fn f' []) => f == f'
  | _, _ => false
def chkSs : List Operand → List Src → Bool
  | [], [] => true
  | o :: os, x :: xs => chkS o x && chkSs os xs
  | _, _ => false
def chkSO : Option Operand → Option Src → Bool
  | none, none => true
  | some o, some x => chkS o x
  | _, _ => false
def chkPs : List (Nat × Operand) → List (Nat × Src) → Bool
  | [], [] => true
  | (i, o) :: os, (j, x) :: xs => i == j && chkS o x && chkPs os xs
  | _, _ => false
section
variable (P : Program)
def szOf (t : TypeId) : Option Nat := (P.info? t).map (·.size)
def byOf (t : TypeId) : Option Nat := (P.info? t).map (·.bytes)
def zeOf (t : TypeId) : Option Value := (P.info? t).bind (·.zero)
def aggB (t : TypeId) : Option Bool := match P.underlying t with
  | some (.struct _) | some (.array _ _) => true
  | some _ => false
  | none => none
def fieldsOf (t : TypeId) : Option (Array Field) := match P.underlying t with
  | some (.struct fs) => some fs
  | _ => none
def elemOf? (t : TypeId) : Option TypeId := match P.underlying t with
  | some (.slice e) => some e
  | _ => none
def isStrT (t : TypeId) : Bool := match P.underlying t with
  | some .string => true
  | _ => false
def isU8 (t : TypeId) : Bool := match P.underlying t with
  | some (.int .u8) => true
  | _ => false
def isIntT (t : TypeId) : Bool := match P.underlying t with
  | some (.int _) => true
  | _ => false
/-- How a variable of a type lies in cells. -/
def lay (t : TypeId) (ag : Bool) (n : Nat) : Bool := decide (szOf P t = some n) && decide (aggB P t = some ag) && (ag || n == 1)
def layZ (t : TypeId) (z : List TV) : Bool := match zeOf P t with
  | some v => cvals v.cells.toList z
  | none => false
/-- A struct's parts. -/
def chkParts (fs : Array Field) : List (Nat × Operand) → List (Nat × Nat × Src) → Bool
  | [], [] => true
  | (i, o) :: os, (off, n, x) :: xs => (match fs[i]? with
      | some f => f.offset == off && decide (szOf P f.type = some n)
      | none => false) && chkS o x && chkParts fs os xs
  | _, _ => false
/-- The places of the fields that '==' looks at, each one cell that is a number, a bool or a text. -/
def eqPlaces : List Field → Option (List (Nat × Nat))
  | [] => some []
  | f :: fs => match eqPlaces fs with
    | some l => if f.name == "_" then some l else match P.underlying f.type with
      | some (.int _) => some ((f.offset, 0) :: l)
      | some .bool => some ((f.offset, 1) :: l)
      | some .string => some ((f.offset, 2) :: l)
      | _ => none
    | none => none
def chkOp (o : Op) (x : TOp) : Bool :=
  match o, x with
  | .move a, .mv _ b | .assign a, .mv _ b => chkS a b
  | .move a, .mvk b | .assign a, .mvk b => chkS a b
  | .pick a b c, .pick a' b' c' => chkS a a' && chkS b b' && chkS c c'
  | .box _ a, .lbx _ b | .box _ a, .hbx _ b => chkS a b
  | .alloc t, .lal z | .alloc t, .hal z => layZ P t z
  | .build t ps, .build z qs => match fieldsOf P t with
    | some fs => layZ P t z && (fs.all fun f => (szOf P f.type).isSome) && chkParts P fs ps.toList qs
    | none => false
  | .buildSlice t n ps, .bsl ag sz n' z qs => match elemOf? P t with
    | some e => n == n' && 0 < n && lay P e ag sz && 0 < sz && n * sz ≤ 16777216 && layZ P e z && z.length == sz && z.all TV.isElt && chkPs ps.toList qs
    | none => false
  | .buildSlice t n ps, .bsr ag sz n' z qs => match elemOf? P t with
    | some e => n == n' && 0 < n && lay P e ag sz && 0 < sz && n * sz ≤ 16777216 && layZ P e z && z.length == sz && z.all TV.isElt && chkPs ps.toList qs
    | none => false
  | .load t a, .ldl _ ag n _ b => lay P t ag n && chkS a b
  | .load t a, .ldh _ ag n b => lay P t ag n && chkS a b
  | .load t a, .ldk ag n b => lay P t ag n && chkS a b
  | .load t a, .ldr ag n _ b => lay P t ag n && chkS a b
  | .load t a, .ldc ag n b => lay P t ag n && chkS a b
  | .store t a v, .stl _ n _ b x => decide (szOf P t = some n) && chkS a b && chkS v x
  | .store t a v, .sth _ n b x => decide (szOf P t = some n) && chkS a b && chkS v x
  | .nilCheck a, .nilc b => chkS a b
  | .binOp op _ a b _, .ar op' a' b' => decide (op = op') && chkS a a' && chkS b b'
  | .binOp op t a b _, .eqb neg a' b' => decide (op = if neg then .neq else .eql) && (match P.underlying t with | some .bool => true | _ => false) && chkS a a' && chkS b b'
  | .binOp op t a b _, .eqp neg a' b' => decide (op = if neg then .neq else .eql) && (match P.underlying t with | some (.pointer _) => true | _ => false) && chkS a a' && chkS b b'
  | .binOp op t a b _, .eqs neg l a' b' => decide (op = if neg then .neq else .eql) && (match P.underlying t with
      | some (.struct fs) => decide (eqPlaces P fs.toList = some l)
      | _ => false) && !P.eqGuardType P.depth t && !P.stoodInHeld t && chkS a a' && chkS b b'
  | .unOp .not _ a, .not b => chkS a b
  | .unOp .neg _ a, .neg b => chkS a b
  | .convert s d a, .cvi k b => (P.underlying s).isSome && (match P.underlying d with | some (.int k') => decide (k = k') | _ => false) && chkS a b
  | .convert s d a, .cvt b => (P.underlying s).isSome && isStrT P d && chkS a b
  | .convert s d a, .cvs b => isStrT P d && (match elemOf? P s with | some e => isU8 P e | none => false) && chkS a b
  | .convert s d a, .cvb b => (P.underlying s).isSome && (match elemOf? P d with | some e => isU8 P e | none => false) && chkS a b
  | .convert s d a, .cvx b => s == d && (match elemOf? P d with | some e => isU8 P e | none => false) && chkS a b
  | .makeFunc (.func f) fi cs, .mkf f' bs => f == f' && fi.size == 0 && chkSs cs.toList bs
  | .makeSlice t l c, .mks ag sz bytes z l' c' => match elemOf? P t with
    | some e => lay P e ag sz && 0 < sz && decide (byOf P e = some bytes) && 0 < bytes && layZ P e z && z.length == sz && chkS l l' && chkS c c'
    | none => false
  | .slice t a lo hi mx, .slc sz b lo' hi' mx' => match elemOf? P t with
    | some e => decide (szOf P e = some sz) && 0 < sz && chkS a b && chkSO lo lo' && chkSO hi hi' && chkSO mx mx' && (mx.isNone || hi.isSome)
    | none => false
  | .slice t a lo hi none, .slx sz b lo' hi' => match elemOf? P t with
    | some e => decide (szOf P e = some sz) && 0 < sz && chkS a b && chkSO lo lo' && chkSO hi hi'
    | none => false
  | .slice t a lo hi none, .sls b lo' hi' => isStrT P t && chkS a b && chkSO lo lo' && chkSO hi hi'
  | .fieldAddr t a i, .fa off b => match fieldsOf P t with
    | some fs => (match fs[i]? with
      | some f => f.offset == off && (match szOf P f.type with | some n => 0 < n | none => false)
      | none => false) && chkS a b
    | none => false
  | .field t a i, .fld ag n off b => match fieldsOf P t with
    | some fs => (match fs[i]? with
      | some f => f.offset == off && lay P f.type ag n && 0 < n
      | none => false) && chkS a b
    | none => false
  | .indexAddr t a i, .ia sz b j => match elemOf? P t with
    | some e => decide (szOf P e = some sz) && 0 < sz && chkS a b && chkS i j
    | none => false
  | .index t a i, .sx b j => isStrT P t && chkS a b && chkS i j
  | .extract a i, .ext _ j b => i == j && chkS a b
  | .call { callee := .value (.func f), args := as, .. }, .call _ f' bs => f == f' && chkSs as.toList (bs.map (·.2))
  | .call { callee := .value (.tmp u), args := as, .. }, .callv _ y bs => chkS (.tmp u) y && chkSs as.toList (bs.map (·.2))
  | .call { callee := .value y, args := as, .. }, .calk _ x bs => chkS y x && (match y with | .const _ => false | _ => true) && chkSs as.toList (bs.map (·.2))
  | .call { callee := .builtin .len, args := as, argTypes := ts }, .len b x => as.size == 1 && (match as[0]?, ts[0]? with
      | some a, some t => chkS a x && (if b then isStrT P t else (elemOf? P t).isSome)
      | _, _ => false)
  | .call { callee := .builtin .append, args := as, argTypes := ts }, .app _ sz bytes x y => (match as.toList, ts.toList with
      | [a, b], [t, u] => (match elemOf? P t with
        | some e => decide (szOf P e = some sz) && 0 < sz && decide (byOf P e = some bytes) && 0 < bytes && (match zeOf P e with | some v => v.cells.size == sz | none => false)
        | none => false) && chkS a x && chkS b y && (isStrT P u || (elemOf? P u).isSome)
      | _, _ => false)
  | .call { callee := .builtin .append, args := as, argTypes := ts }, .apr ag sz bytes x y => (match as.toList, ts.toList with
      | [a, b], [t, u] => (match elemOf? P t with
        | some e => lay P e ag sz && 0 < sz && decide (byOf P e = some bytes) && 0 < bytes && (match zeOf P e with | some v => v.cells.size == sz | none => false)
        | none => false) && chkS a x && chkS b y && (isStrT P u || (elemOf? P u).isSome)
      | _, _ => false)
  | .call { callee := .builtin .clear, args := as, argTypes := ts }, .clr z x => (match as.toList, ts.toList with
      | [a], [t] => (match elemOf? P t with
        | some e => decide (szOf P e = some z.length) && 0 < z.length && layZ P e z
        | none => false) && chkS a x
      | _, _ => false)
  | .call { callee := .builtin .copy, args := as, argTypes := ts }, .cpy sz x y => (match as.toList, ts.toList with
      | [a, b], [t, _] => sz == 1 && (match elemOf? P t with
        | some e => decide (szOf P e = some 1)
        | none => false) && chkS a x && chkS b y
      | _, _ => false)
  | .call { callee := .builtin .min, args := as, .. }, .mn x y => (match as.toList with | [a, b] => chkS a x && chkS b y | _ => false)
  | .call { callee := .builtin .max, args := as, .. }, .mx x y => (match as.toList with | [a, b] => chkS a x && chkS b y | _ => false)
  | _, _ => false
def chkG (ops : Array Oper) : Option (Nat × Bool) → Option (Nat × Bool) → Bool
  | none, none => true
  | some (j, w), some (s, w') => decide ((ops[j]?).bind (·.dst) = some s) && w == w'
  | _, _ => false
def chkOper (ops : Array Oper) (o : Oper) (x : TOper) : Bool := decide (o.dst = x.d) && chkG ops o.guard x.g && chkOp P o.op x.op
def chkOpers (ops : Array Oper) : List Oper → List TOper → Bool
  | [], [] => true
  | o :: os, x :: xs => chkOper P ops o x && chkOpers ops os xs
  | _, _ => false
end
/-- The slots that an operand names. -/
def Src.ss : Src → List Nat
  | .s i => [i]
  | .c _ => []
def tkS (b : Bool) (x : Src) : List Nat := if b then x.ss else []
def rdS (b : Bool) (x : Src) : List Nat := if b then [] else x.ss
/-- What an operation reads of the slots, whatever they own. -/
def TOp.rd : TOp → List Nat
  | .mv b x | .lbx b x | .hbx b x => rdS b x
  | .nilc x | .not x | .neg x | .cvi _ x | .cvt x | .cvs x | .cvb x | .fa _ x | .fld _ _ _ x | .len _ x | .ldh _ _ _ x | .ldc _ _ x | .ldk _ _ x => x.ss
  | .ldr _ _ r x => r.ss ++ x.ss
  | .ext b _ x => rdS b x
  | .pick a b c => a.ss ++ (b.ss ++ c.ss)
  | .lal _ | .hal _ | .cvx _ | .mvk _ => []
  | .build _ ps => ps.flatMap fun p => p.2.2.ss
  | .bsl _ _ _ _ ps | .bsr _ _ _ _ ps => ps.flatMap fun p => p.2.ss
  | .apr _ _ _ _ y => y.ss
  | .clr _ x => x.ss
  | .ldl k _ _ b p => (if k then [] else [b]) ++ p.ss
  | .stl k _ _ p x => p.ss ++ rdS k x
  | .sth k _ p x => p.ss ++ rdS k x
  | .ar _ x y | .eqb _ x y | .eqp _ x y | .eqs _ _ x y | .ia _ x y | .sx x y | .cpy _ x y | .mn x y | .mx x y | .mks _ _ _ _ x y => x.ss ++ y.ss
  | .app k _ _ x y => rdS k x ++ y.ss
  | .mkf _ cs => cs.flatMap Src.ss
  | .slc _ x lo hi m => x.ss ++ (lo.elim [] Src.ss ++ (hi.elim [] Src.ss ++ m.elim [] Src.ss))
  | .slx _ x lo hi => x.ss ++ (lo.elim [] Src.ss ++ hi.elim [] Src.ss)
  | .sls x lo hi => x.ss ++ (lo.elim [] Src.ss ++ hi.elim [] Src.ss)
  | .call _ _ as => as.flatMap fun p => rdS p.1 p.2
  | .callv _ x as => x.ss ++ as.flatMap fun p => rdS p.1 p.2
  | .calk ks x as => ks.flatMap Src.ss ++ (x.ss ++ as.flatMap fun p => rdS p.1 p.2)
/-- What it takes: what these slots own may turn, and nothing else of them. -/
def TOp.tk : TOp → List Nat
  | .mv b x | .lbx b x | .hbx b x | .ext b _ x => tkS b x
  | .cvx x | .mvk x => x.ss
  | .sth b _ _ x => tkS b x
  | .stl b _ _ _ x => tkS b x
  | .app b _ _ x _ => tkS b x
  | .apr _ _ _ x _ => x.ss
  | .ldl b _ _ s _ => if b then [s] else []
  | .call _ _ as | .callv _ _ as | .calk _ _ as => as.flatMap fun p => tkS p.1 p.2
  | _ => []
/-- The slot whose box it writes. -/
def TOp.bx : TOp → List Nat
  | .stl _ _ b _ _ => [b]
  | _ => []
/-- The boxes: 0: nothing, 1: it reads them, 2: it may write them. -/
def TOp.hp : TOp → Nat
  | .ldh b _ _ _ => if b then 2 else 1
  | .call b _ _ | .callv b _ _ => match b with
    | 0 => 2
    | 1 => 1
    | 3 => 2
    | 4 => 1
    | _ => 0
  | .app .. | .cvs _ | .ldk .. | .ldr .. | .slx .. => 1
  | .hbx .. | .hal _ | .mks .. | .cpy .. | .sth .. | .bsr .. | .apr .. | .clr .. | .calk .. => 2
  | _ => 0
def TOp.jl : TOp → Bool
  | .lbx .. | .lal _ => true
  | _ => false
def TOper.rd (o : TOper) : List Nat := (match o.g with | some (g, _) => [g] | none => []) ++ o.op.rd
def TOper.wr (o : TOper) : List Nat := o.d.toList ++ o.op.bx
def apartL (a b : List Nat) : Bool := a.all fun x => !b.contains x
def Src.beq : Src → Src → Bool
  | .s i, .s j => i == j
  | _, _ => false
/-- Does the one look into a box alone that the other one, a call, leaves as it is? -/
def ldKept (x y : TOp) : Bool := match x, y with
  | .ldr _ _ r _, .calk ks _ _ => ks.any (Src.beq r)
  | _, _ => false
/-- May the two be carried out in either order? -/
def comm (x y : TOper) : Bool :=
  !x.op.jl && !y.op.jl && apartL x.wr (y.rd ++ (y.op.tk ++ y.wr)) && apartL y.wr (x.rd ++ (x.op.tk ++ x.wr)) && apartL x.op.tk y.op.tk &&
    (x.op.hp == 0 || y.op.hp == 0 || (x.op.hp == 1 && y.op.hp == 1) || ldKept x.op y.op || ldKept y.op x.op)
/-- Each two of which neither waits for the other. -/
def commAll (b : Array Nat) (xs : Array TOper) : Bool :=
  (List.range xs.size).all fun j => (List.range j).all fun i => (b.getD j 0).testBit i || comm (xs.getD i default) (xs.getD j default)
def chkC (P : Program) : Code → TC → Bool
  | .skip, .skip => true
  | .region _ ops draw, .reg xs _ => chkOpers P ops ops.toList xs && (!draw || (P.follows .mixedOrders && ((List.range ops.size).all fun j => match ops[j]? with | some o => o.after.all fun e => !Region.binds .any e || decide (e.on < j) | none => true) && commAll (Region.before ops) xs.toArray))
  | .seq a b, .seq x y => chkC P a x && chkC P b y
  | .cond c a b, .cond c' x y => chkS c c' && chkC P a x && chkC P b y
  | .block i a, .block j x => i == j && chkC P a x
  | .loop a, .loop x => chkC P a x
  | .exit i, .exit j => i == j
  | .ret, .ret => true
  | _, _ => false
def chkR (P : Program) : List ResultVar → List TRes → Bool
  | [], [] => true
  | .tmp t :: rs, .tmp t' :: xs => t == t' && chkR P rs xs
  | .cell a t :: rs, .cell a' ag n :: xs => a == a' && lay P t ag n && chkR P rs xs
  | _, _ => false
/-- The function f of P has this code. -/
def chkF (P : Program) (f : Nat) (tf : TF) : Bool :=
  match P.funcs[f]? with
  | some fn => match fn.body with
    | some c => chkC P c tf.body && chkR P fn.results.toList tf.res && slotsDistinct tf.res [] && fn.ntmps == tf.ntmps && fn.name != "runtime.NumGoroutine"
    | none => false
  | none => false
end Go.T
/- What a value of the small machine says of a value of the model, in a world; what stays when the world goes on. -/
set_option linter.unusedVariables false
set_option linter.unusedSimpArgs false
namespace Go.T

structure Gh where
  imm : Nat → Nat
  nu : Nat → Nat

abbrev Ow := Nat → Option (List Nat)

/-- Cell o of block b. -/
abbrev at_ (b o : Nat) : Addr := ⟨b, o, none⟩
/-- The row of a block. -/
def RowOf (w : World) (b : Nat) (vs : Array Value) (ty : TypeId) (fr : Nat × Nat) : Prop := w.heap[b]? = some (.cells vs ty fr)
def NF (fr : Nat × Nat) (n : Nat) : Prop := fr.1 = fr.2 ∨ n ≤ fr.1

/-- What a value says of a value of the model, but for what it owns. m: how many boxes there are. -/
inductive VR (w : World) (g : Gh) (m : Nat) : TV → Value → Prop where
  | bool (b : Bool) : VR w g m (.bool b) (.bool b)
  | int (k : IntKind) (n : Int) : VR w g m (.int k n) (.int k n)
  | str (s : ByteArray) : VR w g m (.str s) (.string s)
  | ptr (i o : Nat) (h : i < m) : VR w g m (.ptr i o) (.pointer (some (at_ (g.nu i) o)))
  | nilp : VR w g m .nilp (.pointer none)
  | nils (A : Option Addr) (hA : ∀ a, A = some a → 0 < 0 → a.spot = none) : VR w g m .nils (.slice A 0 0)
  | cp (cs : List TV) (b o : Nat) (vals : Nat → Value)
      (h : ∀ (j : Nat) (x : TV), cs[j]? = some x → x.isElt = true ∧ o + j < g.imm b ∧ w.cell? (at_ b (o + j)) = some (vals j))
      (hr : ∀ (j : Nat) (x : TV), cs[j]? = some x → VR w g m x (vals j)) : VR w g m (.cp cs) (.pointer (some (at_ b o)))
  | sl (t : Tag) (l : List TV) (A : Option Addr) (c sz : Nat) (vals : Nat → Nat → Value) (hz : 0 < sz) (hc : l.length ≤ c) (hm : l.length ≤ 9223372036854775807)
      (hA : ∀ a, A = some a → 0 < c → a.spot = none) (hn : A = none → l = [])
      (he : ∀ e ∈ l, e.cells.length = sz)
      (h : ∀ (a : Addr) (i : Nat) (e : TV) (j : Nat) (x : TV), A = some a → l[i]? = some e → e.cells[j]? = some x → x.isElt = true ∧ a.off + (i * sz + j) < g.imm a.block ∧ w.cell? (at_ a.block (a.off + (i * sz + j))) = some (vals i j))
      (hr : ∀ (i : Nat) (e : TV) (j : Nat) (x : TV), l[i]? = some e → e.cells[j]? = some x → VR w g m x (vals i j)) : VR w g m (.sl t l) (.slice A l.length c)
  | asl (ag : Bool) (sz i o n c : Nat) (h : i < m) (hc : n ≤ c) (hm : n ≤ 9223372036854775807) (hrow : ∃ vs ty fr, RowOf w (g.nu i) vs ty fr ∧ o + c * sz = vs.size) :
      VR w g m (.asl ag sz i o n) (.slice (some (at_ (g.nu i) o)) n c)
  | fn (f : Nat) (cs : List TV) (vs : Array Value) (hl : cs.length = vs.size)
      (h : ∀ (j : Nat) (x : TV) (v : Value), cs[j]? = some x → vs[j]? = some v → x.isCell = true ∧ x.noOwn = true)
      (hr : ∀ (j : Nat) (x : TV) (v : Value), cs[j]? = some x → vs[j]? = some v → VR w g m x v) : VR w g m (.fn f cs) (.func (.func f) #[] vs)
  | nilf : VR w g m .nilf .nilFunc
  | agg (cs : List TV) (vs : Array Value) (hl : cs.length = vs.size) (h : ∀ (j : Nat) (x : TV) (v : Value), cs[j]? = some x → vs[j]? = some v → x.isCell = true)
      (hr : ∀ (j : Nat) (x : TV) (v : Value), cs[j]? = some x → vs[j]? = some v → VR w g m x v) : VR w g m (.agg cs) (.agg vs)
  | tup (cs : List TV) (vs : Array Value) (hl : cs.length = vs.size) (h : ∀ (j : Nat) (x : TV) (v : Value), cs[j]? = some x → vs[j]? = some v → argOk x = true)
      (hr : ∀ (j : Nat) (x : TV) (v : Value), cs[j]? = some x → vs[j]? = some v → VR w g m x v) : VR w g m (.tup cs) (.tuple vs)
  | junk (v : Value) : VR w g m .junk v

/-- A part of a value that may own something: a cell of a struct, a component of a result. -/
inductive Sub : TV → Value → List Nat → TV → Value → Prop where
  | here (x : TV) (v : Value) : Sub x v [] x v
  | agg (cs : List TV) (vs : Array Value) (k : Nat) (x : TV) (v : Value) (p : List Nat) (y : TV) (u : Value) (hx : cs[k]? = some x) (hv : vs[k]? = some v) (h : Sub x v p y u) : Sub (.agg cs) (.agg vs) (k :: p) y u
  | tup (cs : List TV) (vs : Array Value) (k : Nat) (x : TV) (v : Value) (p : List Nat) (y : TV) (u : Value) (hx : cs[k]? = some x) (hv : vs[k]? = some v) (h : Sub x v p y u) : Sub (.tup cs) (.tuple vs) (k :: p) y u

/-- Behind the n elements there is room, and it is ours. -/
def Tail (w : World) (g : Gh) (a : Addr) (n c sz : Nat) : Prop :=
  ∃ vs ty fr, RowOf w a.block vs ty fr ∧ g.imm a.block = a.off + n * sz ∧ a.off + c * sz ≤ vs.size ∧ NF fr vs.size
/-- What a value at a place owns is its own. -/
def Owns (w : World) (g : Gh) (ow : Ow) (q : List Nat) (x : TV) (v : Value) : Prop :=
  ∀ p sz s l A n c, Sub x v p (.sl (.own sz s) l) (.slice A n c) →
    0 < sz ∧ (n < c ∨ s = true → ∃ a, A = some a ∧ ow a.block = some (q ++ p) ∧ Tail w g a n c sz)
/-- A box: its cells lie in a block of their own. -/
def BoxR (w : World) (g : Gh) (m : Nat) (ow : Ow) (q : List Nat) (cs : List TV) (b : Nat) : Prop :=
  ∃ vs ty fr, RowOf w b vs ty fr ∧ cs.length ≤ vs.size ∧ NF fr vs.size ∧ g.imm b = 0 ∧ ow b = some q ∧
    (∀ j x v, cs[j]? = some x → vs[j]? = some v → x.isCell = true ∧ VR w g m x v ∧ Owns w g ow (q ++ [j]) x v)
/-- A box that may be dead. -/
def BoxD (w : World) (g : Gh) (m : Nat) (ow : Ow) (q : List Nat) (cs : List TV) (b : Nat) : Prop := dead cs = false → BoxR w g m ow q cs b

/-- Nobody's here. -/
def Far (o : Option (List Nat)) : Prop := o = none ∨ ∃ q, o = some (2 :: q)
/-- How a world goes on: what never changes stays; nothing of others is touched. -/
structure Stp (w : World) (g : Gh) (ow : Ow) (m : Nat) (w' : World) (g' : Gh) (ow' : Ow) : Prop where
  os : w'.os = w.os
  tape : w'.tape = w.tape
  output : w'.output = w.output
  size : w.heap.size ≤ w'.heap.size
  cell : ∀ b o, b < w.heap.size → o < g.imm b → w'.cell? (at_ b o) = w.cell? (at_ b o)
  imm : ∀ b, b < w.heap.size → g.imm b ≤ g'.imm b
  nu : ∀ i, i < m → g'.nu i = g.nu i
  row : ∀ b vs ty fr, RowOf w b vs ty fr → ∃ vs' fr', RowOf w' b vs' ty fr' ∧ vs'.size = vs.size
  far : ∀ b, b < w.heap.size → Far (ow b) → w'.heap[b]? = w.heap[b]? ∧ g'.imm b = g.imm b ∧ ow' b = ow b
  out : ∀ b q, ow' b = some (2 :: q) → b < w.heap.size ∧ ow b = some (2 :: q)

theorem Stp.refl (w : World) (g : Gh) (ow : Ow) (m : Nat) (h : ∀ b q, ow b = some q → b < w.heap.size) : Stp w g ow m w g ow :=
  ⟨rfl, rfl, rfl, Nat.le_refl _, fun _ _ _ _ => rfl, fun _ _ => Nat.le_refl _, fun _ _ => rfl, fun b vs ty fr hh => ⟨vs, fr, hh, rfl⟩, fun _ _ _ => ⟨rfl, rfl, rfl⟩, fun b q hq => ⟨h b _ hq, hq⟩⟩
theorem Stp.trans {w w1 w2 : World} {g g1 g2 : Gh} {ow o1 o2 : Ow} {m m1 : Nat} (h : Stp w g ow m w1 g1 o1) (k : Stp w1 g1 o1 m1 w2 g2 o2) (hm : m ≤ m1) : Stp w g ow m w2 g2 o2 where
  os := k.os.trans h.os
  tape := k.tape.trans h.tape
  output := k.output.trans h.output
  size := Nat.le_trans h.size k.size
  cell b o hb ho := (k.cell b o (Nat.lt_of_lt_of_le hb h.size) (Nat.lt_of_lt_of_le ho (h.imm b hb))).trans (h.cell b o hb ho)
  imm b hb := Nat.le_trans (h.imm b hb) (k.imm b (Nat.lt_of_lt_of_le hb h.size))
  nu i hi := (k.nu i (Nat.lt_of_lt_of_le hi hm)).trans (h.nu i hi)
  row b vs ty fr hh := by
    obtain ⟨v1, f1, h1, e1⟩ := h.row b vs ty fr hh
    obtain ⟨v2, f2, h2, e2⟩ := k.row b v1 ty f1 h1
    exact ⟨v2, f2, h2, e2.trans e1⟩
  far b hb hf := by
    obtain ⟨a1, a2, a3⟩ := h.far b hb hf
    obtain ⟨b1, b2, b3⟩ := k.far b (Nat.lt_of_lt_of_le hb h.size) (by rw [a3]; exact hf)
    exact ⟨b1.trans a1, b2.trans a2, b3.trans a3⟩
  out b q hq := by
    obtain ⟨a1, a2⟩ := k.out b q hq
    exact h.out b q a2

theorem lt_of_cell {w : World} {a : Addr} {v : Value} (h : w.cell? a = some v) : a.block < w.heap.size := by
  unfold World.cell? at h
  rcases Nat.lt_or_ge a.block w.heap.size with h' | h'
  · exact h'
  · rw [Array.getElem?_eq_none h'] at h; cases h
theorem lt_of_row {w : World} {b : Nat} {vs : Array Value} {ty : TypeId} {fr : Nat × Nat} (h : RowOf w b vs ty fr) : b < w.heap.size := by
  unfold RowOf at h
  rcases Nat.lt_or_ge b w.heap.size with h' | h'
  · exact h'
  · rw [Array.getElem?_eq_none h'] at h; cases h
theorem cell_of_row {w : World} {b o : Nat} {vs : Array Value} {ty : TypeId} {fr : Nat × Nat} (h : RowOf w b vs ty fr) : w.cell? (at_ b o) = vs[o]? := by
  unfold RowOf at h
  simp [World.cell?, h]

/-- What a value says stays true. -/
theorem VR.mono {w w' : World} {g g' : Gh} {ow ow' : Ow} {m m' : Nat} (hs : Stp w g ow m w' g' ow') (hm : m ≤ m') {x : TV} {v : Value} (h : VR w g m x v) : VR w' g' m' x v := by
  induction h with
  | bool b => exact .bool b
  | int k n => exact .int k n
  | str s => exact .str s
  | ptr i o h => rw [← hs.nu i h]; exact .ptr i o (Nat.lt_of_lt_of_le h hm)
  | nilp => exact .nilp
  | nils A hA => exact .nils A hA
  | cp cs b o vals h hr ih =>
    refine .cp cs b o vals (fun j x hx => ?_) (fun j x hx => ih j x hx)
    obtain ⟨h1, h2, h3⟩ := h j x hx
    have hb := lt_of_cell h3
    exact ⟨h1, Nat.lt_of_lt_of_le h2 (hs.imm _ hb), (hs.cell _ _ hb h2).trans h3⟩
  | sl t l A c sz vals hz hc hmx hA hn he h hr ih =>
    refine .sl t l A c sz vals hz hc hmx hA hn he (fun a i e j x ha hi hx => ?_) (fun i e j x hi hx => ih i e j x hi hx)
    obtain ⟨h1, h2, h3⟩ := h a i e j x ha hi hx
    have hb := lt_of_cell h3
    exact ⟨h1, Nat.lt_of_lt_of_le h2 (hs.imm _ hb), (hs.cell _ _ hb h2).trans h3⟩
  | asl ag sz i o n c h hc hmx hrow =>
    rw [← hs.nu i h]
    obtain ⟨vs, ty, fr, h1, h2⟩ := hrow
    obtain ⟨vs', fr', h3, h4⟩ := hs.row _ _ _ _ h1
    exact .asl ag sz i o n c (Nat.lt_of_lt_of_le h hm) hc hmx ⟨vs', ty, fr', by rw [hs.nu i h]; exact h3, by omega⟩
  | fn f cs vs hl h hr ih => exact .fn f cs vs hl h ih
  | nilf => exact .nilf
  | agg cs vs hl h hr ih => exact .agg cs vs hl h ih
  | tup cs vs hl h hr ih => exact .tup cs vs hl h ih
  | junk v => exact .junk v

theorem Sub.lbl {x : TV} {v : Value} {p : List Nat} {y : TV} {u : Value} (h : Sub x v p y u) (hx : x.isElt = true) : y.isElt = true ∧ p = [] := by
  cases h with
  | here => exact ⟨hx, rfl⟩
  | agg => simp [TV.isElt, TV.isCell] at hx
  | tup => simp [TV.isElt, TV.isCell] at hx
/-- What owns nothing. -/
def TV.poor : TV → Bool
  | .sl (.own ..) _ => false
  | .agg cs => cs.all TV.noOwn
  | .tup vs => vs.all fun v => match v with
    | .agg cs => cs.all TV.noOwn
    | .sl (.own ..) _ => false
    | .tup _ => false
    | _ => true
  | _ => true
theorem Sub.cell {x : TV} {v : Value} {p : List Nat} {y : TV} {u : Value} (h : Sub x v p y u) (hx : x.isCell = true) : y = x ∧ u = v ∧ p = [] := by
  cases h with
  | here => exact ⟨rfl, rfl, rfl⟩
  | agg => simp [TV.isCell] at hx
  | tup => simp [TV.isCell] at hx
theorem owns_cell {w : World} {g : Gh} {ow : Ow} {q : List Nat} {x : TV} {v : Value} (hx : x.isCell = true) (hn : x.noOwn = true) : Owns w g ow q x v := by
  intro p sz s l A n c hs
  obtain ⟨rfl, _, _⟩ := hs.cell hx
  simp [TV.noOwn] at hn
/-- Whose parts all own nothing. -/
theorem owns_agg {w : World} {g : Gh} {ow : Ow} {q : List Nat} {cs : List TV} {v : Value} (h : ∀ x ∈ cs, x.isCell = true ∧ x.noOwn = true) : Owns w g ow q (.agg cs) v := by
  intro p sz s l A n c hs
  cases hs with
  | agg _ vs k x v p _ _ hx hv h' =>
    have := h x (List.mem_of_getElem? hx)
    obtain ⟨rfl, _, _⟩ := h'.cell this.1
    simp [TV.noOwn] at this
theorem BoxR.d {w : World} {g : Gh} {m : Nat} {ow : Ow} {q : List Nat} {cs : List TV} {b : Nat} (h : BoxR w g m ow q cs b) : BoxD w g m ow q cs b := fun _ => h
theorem shr0_noOwn (x : TV) : x.shr0.noOwn = true := by cases x <;> rfl
theorem shr0_isCell (x : TV) : x.shr0.isCell = x.isCell := by cases x <;> rfl
theorem VR.shr0 {w : World} {g : Gh} {m : Nat} {x : TV} {v : Value} (h : VR w g m x v) : VR w g m x.shr0 v := by
  cases h
  case sl t l A c sz vals hz hc hmx hA hn he h hr => exact .sl .shr l A c sz vals hz hc hmx hA hn he h hr
  case nils A hA => exact .sl .shr [] A 0 1 (fun _ _ => default) (by decide) (by simp) (by simp) hA (fun _ => rfl) (by simp) (by simp) (by simp)
  all_goals first | exact .bool _ | exact .int _ _ | exact .str _ | exact .nilp | exact .nilf | exact .junk _ | constructor <;> assumption
theorem getElem?_map_some {α β : Type} {f : α → β} {l : List α} {j : Nat} {y : β} (h : (l.map f)[j]? = some y) : ∃ x, l[j]? = some x ∧ f x = y := by
  rw [List.getElem?_map] at h
  cases h' : l[j]? with
  | none => rw [h'] at h; cases h
  | some x => rw [h'] at h; exact ⟨x, rfl, by simpa using h⟩
theorem VR.aggShr {w : World} {g : Gh} {m : Nat} {cs : List TV} {vs : Array Value} (h : VR w g m (.agg cs) (.agg vs)) : VR w g m (.agg (cs.map TV.shr0)) (.agg vs) := by
  cases h with
  | agg _ _ hl h hr =>
    refine .agg _ _ (by simpa using hl) (fun j x v hx hv => ?_) (fun j x v hx hv => ?_)
    · obtain ⟨y, hy, rfl⟩ := getElem?_map_some hx
      rw [shr0_isCell]; exact h j y v hy hv
    · obtain ⟨y, hy, rfl⟩ := getElem?_map_some hx
      exact (hr j y v hy hv).shr0
theorem VR.shrA {w : World} {g : Gh} {m : Nat} {x : TV} {v : Value} (h : VR w g m x v) : VR w g m x.shrA v := by
  have hh := h
  cases h <;> first | exact hh.shr0 | skip
  exact hh.aggShr
theorem argOk_shrA (x : TV) : argOk x.shrA = argOk x := by
  cases x <;> first | rfl | skip
  case agg cs =>
    simp only [TV.shrA, argOk]
    rw [List.all_map]
    congr 1
    funext x
    exact shr0_isCell x
theorem VR.shrT {w : World} {g : Gh} {m : Nat} {x : TV} {v : Value} (h : VR w g m x v) : VR w g m x.shrT v := by
  have hh := h
  cases h <;> first | exact hh.shrA | skip
  case tup cs vs hl h hr =>
    refine .tup _ _ (by simpa using hl) (fun j x v hx hv => ?_) (fun j x v hx hv => ?_)
    · obtain ⟨y, hy, rfl⟩ := getElem?_map_some hx
      rw [argOk_shrA]; exact h j y v hy hv
    · obtain ⟨y, hy, rfl⟩ := getElem?_map_some hx
      exact (hr j y v hy hv).shrA
theorem argOk_cells {x : TV} (h : argOk x = true) : (∃ cs, x = .agg cs ∧ ∀ y ∈ cs, y.isCell = true) ∨ x.isCell = true := by
  cases x <;> simp [argOk, TV.isCell] at h ⊢
  case agg cs => exact h
/-- A struct or a cell, owning nothing. -/
theorem owns_shrA {w : World} {g : Gh} {ow : Ow} {q : List Nat} {x : TV} {v : Value} (h : argOk x = true) : Owns w g ow q x.shrA v := by
  rcases argOk_cells h with ⟨cs, rfl, hc⟩ | hc
  · exact owns_agg (fun y hy => by
      obtain ⟨z, hz, rfl⟩ := List.mem_map.1 hy
      exact ⟨by rw [shr0_isCell]; exact hc z hz, shr0_noOwn z⟩)
  · have : x.shrA = x.shr0 := by cases x <;> first | rfl | simp [TV.isCell] at hc
    rw [this]
    exact owns_cell (by rw [shr0_isCell]; exact hc) (shr0_noOwn x)
/-- Whatever is told of a value, owning nothing, owns nothing. -/
theorem VR.owns_shrT {w w' : World} {g g' : Gh} {m : Nat} {ow : Ow} {q : List Nat} {x : TV} {v : Value} (h : VR w g m x v) : Owns w' g' ow q x.shrT v := by
  have hh := h
  cases h <;> first | exact owns_cell rfl rfl | skip
  case agg cs vs hl h hr =>
    refine owns_shrA (x := .agg cs) ?_
    simp only [argOk, List.all_eq_true]
    intro y hy
    obtain ⟨j, hj⟩ := List.getElem?_of_mem hy
    have hlt : j < vs.size := by rw [← hl]; exact (List.getElem?_eq_some_iff.1 hj).1
    exact h j y vs[j] hj (by simp [hlt])
  case tup cs vs hl h hr =>
    intro p sz s l A n c hs
    cases hs with
    | tup _ _ k x v p _ _ hx hv h' =>
      obtain ⟨y, hy, rfl⟩ := getElem?_map_some hx
      exact absurd h' (by
        intro h'
        have ho : Owns w' g' (fun _ => none) [] y.shrA v := owns_shrA (h k y v hy hv)
        have ho' : Owns w' g' (fun _ => some [9]) [] y.shrA v := owns_shrA (h k y v hy hv)
        rcases argOk_cells (h k y v hy hv) with ⟨ds, rfl, hc⟩ | hc
        · simp only [TV.shrA] at h'
          cases h' with
          | agg _ us k2 x2 v2 p2 _ _ hx2 hv2 h2 =>
            obtain ⟨z, hz, rfl⟩ := getElem?_map_some hx2
            obtain ⟨e, _, _⟩ := h2.cell (by rw [shr0_isCell]; exact hc z (List.mem_of_getElem? hz))
            have := shr0_noOwn z
            rw [← e] at this
            simp [TV.noOwn] at this
        · have : y.shrA = y.shr0 := by cases y <;> first | rfl | simp [TV.isCell] at hc
          rw [this] at h'
          obtain ⟨e, _, _⟩ := h'.cell (by rw [shr0_isCell]; exact hc)
          have := shr0_noOwn y
          rw [← e] at this
          simp [TV.noOwn] at this)
  case junk =>
    intro p sz s l A n c hs
    cases hs
theorem Owns.mono {w w' : World} {g g' : Gh} {ow ow' : Ow} {q : List Nat} {x : TV} {v : Value} (h : Owns w g ow q x v)
    (hk : ∀ b p, ow b = some (q ++ p) → w'.heap[b]? = w.heap[b]? ∧ g'.imm b = g.imm b ∧ ow' b = ow b) : Owns w' g' ow' q x v := by
  intro p sz s l A n c hs
  obtain ⟨h0, h1⟩ := h p sz s l A n c hs
  refine ⟨h0, fun hh => ?_⟩
  obtain ⟨a, ha, ho, vs, ty, fr, hr, e1, e2, e3⟩ := h1 hh
  obtain ⟨k1, k2, k3⟩ := hk _ _ ho
  exact ⟨a, ha, k3.trans ho, vs, ty, fr, by unfold RowOf at *; rw [k1]; exact hr, by rw [k2]; exact e1, e2, e3⟩
/-- What is moved to another place. -/
theorem Owns.move {w w' : World} {g g' : Gh} {ow ow' : Ow} {q q' : List Nat} {x : TV} {v : Value} (h : Owns w g ow q x v)
    (hk : ∀ b p, ow b = some (q ++ p) → w'.heap[b]? = w.heap[b]? ∧ g'.imm b = g.imm b ∧ ow' b = some (q' ++ p)) : Owns w' g' ow' q' x v := by
  intro p sz s l A n c hs
  obtain ⟨h0, h1⟩ := h p sz s l A n c hs
  refine ⟨h0, fun hh => ?_⟩
  obtain ⟨a, ha, ho, vs, ty, fr, hr, e1, e2, e3⟩ := h1 hh
  obtain ⟨k1, k2, k3⟩ := hk _ _ ho
  exact ⟨a, ha, k3, vs, ty, fr, by unfold RowOf at *; rw [k1]; exact hr, by rw [k2]; exact e1, e2, e3⟩
theorem BoxR.mono {w w' : World} {g g' : Gh} {ow ow' : Ow} {m m' : Nat} {q : List Nat} {cs : List TV} {b : Nat} (hs : Stp w g ow m w' g' ow') (hm : m ≤ m') (h : BoxR w g m ow q cs b)
    (hk : ∀ b p, ow b = some (q ++ p) → w'.heap[b]? = w.heap[b]? ∧ g'.imm b = g.imm b ∧ ow' b = ow b) : BoxR w' g' m' ow' q cs b := by
  obtain ⟨vs, ty, fr, hr, hl, hf, hi, ho, hc⟩ := h
  obtain ⟨k1, k2, k3⟩ := hk b [] (by simpa using ho)
  refine ⟨vs, ty, fr, by unfold RowOf at *; rw [k1]; exact hr, hl, hf, k2.trans hi, k3.trans ho, fun j x v hx hv => ?_⟩
  obtain ⟨c1, c2, c3⟩ := hc j x v hx hv
  exact ⟨c1, c2.mono hs hm, c3.mono (fun b' p hb' => hk b' ([j] ++ p) (by rw [hb']; simp))⟩
theorem BoxD.mono {w w' : World} {g g' : Gh} {ow ow' : Ow} {m m' : Nat} {q : List Nat} {cs : List TV} {b : Nat} (hs : Stp w g ow m w' g' ow') (hm : m ≤ m') (h : BoxD w g m ow q cs b)
    (hk : ∀ b p, ow b = some (q ++ p) → w'.heap[b]? = w.heap[b]? ∧ g'.imm b = g.imm b ∧ ow' b = ow b) : BoxD w' g' m' ow' q cs b := fun hd => (h hd).mono hs hm hk
theorem live_some {h : Heap} {i : Nat} {cs : List TV} (hl : live h i = some cs) : h[i]? = some cs ∧ dead cs = false := by
  unfold live at hl
  split at hl
  · rename_i cs' hc
    split at hl
    · cases hl
    · rename_i hd
      obtain rfl := Option.some.inj hl
      exact ⟨hc, by simpa using hd⟩
  · cases hl
end Go.T
/- What a state of the small machine says of a frame of the model. -/
set_option linter.unusedVariables false
set_option linter.unusedSimpArgs false
namespace Go.T

theorem sl_set (t : List TV) (i j : Nat) (v : TV) : sl (t.set i v) j = if i = j ∧ j < t.length then v else sl t j := by
  unfold sl
  simp only [List.getD_eq_getElem?_getD, List.getElem?_set]
  by_cases h : i = j
  · subst h
    by_cases h2 : i < t.length
    · simp [h2]
    · simp [h2, List.getElem?_eq_none (Nat.le_of_not_lt h2)]
  · simp [h]
theorem getD_put (a : Act) (d j : Nat) (v : Value) : (a.put (some d) v).tmps.getD j undef = if d = j ∧ j < a.tmps.size then v else a.tmps.getD j undef := by
  show (a.tmps.setIfInBounds d v).getD j undef = _
  simp only [Array.getD_eq_getD_getElem?, Array.getElem?_setIfInBounds]
  by_cases h : d = j
  · subst h
    by_cases h2 : d < a.tmps.size
    · simp [h2]
    · simp [h2]
  · simp [h]

/-- What slot j holds. -/
def SlotR (w : World) (g : Gh) (m : Nat) (ow : Ow) (t : List TV) (tm : Array Value) (j : Nat) : TV → Value → Prop
  | .lbox cs, v => ∃ b, v = .pointer (some (at_ b 0)) ∧ BoxR w g m ow [0, j] cs b
  | .lp b o, v => ∀ cs, sl t b = .lbox cs → ∃ k, tm.getD b undef = .pointer (some (at_ k 0)) ∧ v = .pointer (some (at_ k o))
  | x, v => VR w g m x v ∧ Owns w g ow [0, j] x v
structure Inv (w : World) (g : Gh) (ow : Ow) (st : St) (a : Act) : Prop where
  defers : a.defers = []
  len : st.t.length = a.tmps.size
  slot : ∀ j, SlotR w g st.h.length ow st.t a.tmps j (sl st.t j) (a.tmps.getD j undef)
  box : ∀ (i : Nat) cs, st.h[i]? = some cs → BoxD w g st.h.length ow [1, i] cs (g.nu i)
  bd : ∀ b q, ow b = some q → b < w.heap.size
  base : st.base ≤ st.h.length

def plainV : TV → Bool
  | .lbox _ | .lp .. => false
  | _ => true
theorem SlotR.plain {w : World} {g : Gh} {m : Nat} {ow : Ow} {t : List TV} {tm : Array Value} {j : Nat} {x : TV} {v : Value} (hx : plainV x = true) : SlotR w g m ow t tm j x v ↔ VR w g m x v ∧ Owns w g ow [0, j] x v := by
  cases x <;> first | rfl | simp [plainV] at hx
theorem Inv.plain {w : World} {g : Gh} {ow : Ow} {st : St} {a : Act} (h : Inv w g ow st a) {j : Nat} (hx : plainV (sl st.t j) = true) : VR w g st.h.length (sl st.t j) (a.tmps.getD j undef) ∧ Owns w g ow [0, j] (sl st.t j) (a.tmps.getD j undef) :=
  (SlotR.plain hx).1 (h.slot j)
theorem plain_shrT (x : TV) (h : plainV x = true) : plainV x.shrT = true := by cases x <;> first | rfl | simp [plainV] at h

/-- A constant. -/
theorem cval_VR {w : World} {g : Gh} {m : Nat} {v : Value} {x : TV} (h : cval v x = true) : VR w g m x v ∧ x.isCell = true ∧ ∀ w' g' ow' q, Owns w' g' ow' q x v := by
  unfold cval at h
  split at h
  · obtain rfl := eq_of_beq h; exact ⟨.bool _, rfl, fun _ _ _ _ => owns_cell rfl rfl⟩
  · simp at h; obtain ⟨rfl, rfl⟩ := h; exact ⟨.int _ _, rfl, fun _ _ _ _ => owns_cell rfl rfl⟩
  · simp at h; subst h; exact ⟨.str _, rfl, fun _ _ _ _ => owns_cell rfl rfl⟩
  · exact ⟨.nilp, rfl, fun _ _ _ _ => owns_cell rfl rfl⟩
  · exact ⟨.nils none (by simp), rfl, fun _ _ _ _ => owns_cell rfl rfl⟩
  · exact ⟨.sl _ [] none 0 1 (fun _ _ => default) (by decide) (by simp) (by simp) (by simp) (fun _ => rfl) (by simp) (by simp) (by simp), rfl, fun _ _ _ _ => owns_cell rfl rfl⟩
  · rename_i n
    refine ⟨.sl _ [] none 0 1 (fun _ _ => default) (by decide) (by simp) (by simp) (by simp) (fun _ => rfl) (by simp) (by simp) (by simp), rfl, ?_⟩
    intro w' g' ow' q p sz s l A n c hs
    cases hs
    simp at h
    exact ⟨h, by simp⟩
  · exact ⟨.nilf, rfl, fun _ _ _ _ => owns_cell rfl rfl⟩
  · rename_i f a b f'
    simp at h
    obtain ⟨⟨rfl, h1⟩, h2⟩ := h
    subst h1; subst h2
    exact ⟨.fn f [] #[] rfl (by simp) (by simp), rfl, fun _ _ _ _ => owns_cell rfl rfl⟩
  · cases h
theorem cvals_get {vs : List Value} {xs : List TV} (h : cvals vs xs = true) : xs.length = vs.length ∧ ∀ (j : Nat) (x : TV) (v : Value), xs[j]? = some x → vs[j]? = some v → cval v x = true := by
  induction vs generalizing xs with
  | nil => cases xs <;> simp [cvals] at h ⊢
  | cons v vs ih =>
    cases xs with
    | nil => simp [cvals] at h
    | cons x xs =>
      simp [cvals] at h
      obtain ⟨h1, h2⟩ := ih h.2
      refine ⟨by simp [h1], fun j y u hy hu => ?_⟩
      cases j with
      | zero => simp at hy hu; subst hy; subst hu; exact h.1
      | succ j => simp at hy hu; exact h2 j y u hy hu
theorem cvals_agg {w : World} {g : Gh} {m : Nat} {vs : Array Value} {xs : List TV} (h : cvals vs.toList xs = true) : VR w g m (.agg xs) (.agg vs) ∧ (∀ w' g' ow' q, Owns w' g' ow' q (.agg xs) (.agg vs)) := by
  obtain ⟨hl, hc⟩ := cvals_get h
  have hc' : ∀ (j : Nat) (x : TV) (v : Value), xs[j]? = some x → vs[j]? = some v → cval v x = true := fun j x v hx hv => hc j x v hx (by simpa using hv)
  refine ⟨.agg _ _ (by simpa using hl) (fun j x v hx hv => (cval_VR (w := w) (g := g) (m := m) (hc' j x v hx hv)).2.1) (fun j x v hx hv => (cval_VR (hc' j x v hx hv)).1), ?_⟩
  intro w' g' ow' q p sz s l A n c hs
  cases hs with
  | agg _ _ k x v p _ _ hx hv h' => exact (cval_VR (w := w) (g := g) (m := m) (hc' k x v hx hv)).2.2 w' g' ow' (q ++ [k]) p sz s l A n c h' |> fun h => by simpa using h
theorem cvalA_VR {w : World} {g : Gh} {m : Nat} {v : Value} {x : TV} (h : cvalA v x = true) : VR w g m x v ∧ plainV x = true ∧ ∀ w' g' ow' q, Owns w' g' ow' q x v := by
  unfold cvalA at h
  split at h
  · obtain ⟨h1, h2⟩ := cvals_agg (w := w) (g := g) (m := m) h
    exact ⟨h1, rfl, h2⟩
  · obtain ⟨h1, h2, h3⟩ := cval_VR (w := w) (g := g) (m := m) h
    exact ⟨h1, by cases x <;> first | rfl | simp [TV.isCell] at h2, h3⟩

section
variable {w : World} {g : Gh} {ow : Ow} {st : St} {a : Act}
theorem ev_s {t : List TV} {i : Nat} {v : TV} (h : ev t (.s i) = some v) : plainV (sl t i) = true ∧ v = (sl t i).shrT := by
  simp only [ev] at h
  split at h
  · cases h
  · cases h
  · rename_i hx hy
    simp at h
    refine ⟨?_, h.symm⟩
    generalize sl t i = x at *
    cases x <;> first | rfl | simp_all [plainV]
theorem ev_spec (hI : Inv w g ow st a) {o : Operand} {x : Src} {v : TV} (hc : chkS o x = true) (he : ev st.t x = some v) :
    VR w g st.h.length v (a.eval o) ∧ plainV v = true ∧ ∀ w' g' ow' q, Owns w' g' ow' q v (a.eval o) := by
  unfold chkS at hc
  split at hc
  · obtain rfl := eq_of_beq hc
    obtain ⟨hp, rfl⟩ := ev_s he
    obtain ⟨h1, h2⟩ := hI.plain hp
    exact ⟨h1.shrT, plain_shrT _ hp, fun _ _ _ _ => h1.owns_shrT⟩
  · simp only [ev, Option.some.injEq] at he
    subst he
    obtain ⟨h1, h2, _⟩ := cvalA_VR (w := w) (g := g) (m := st.h.length) hc
    exact ⟨h1.shrT, plain_shrT _ h2, fun _ _ _ _ => h1.owns_shrT⟩
  · obtain rfl := eq_of_beq hc
    simp only [ev, Option.some.injEq] at he
    subst he
    exact ⟨.fn _ [] #[] rfl (by simp) (by simp), rfl, fun _ _ _ _ => owns_cell rfl rfl⟩
  · cases hc
theorem tak_s {t : List TV} {tk : Bool} {i : Nat} {v : TV} {is : List Nat} (h : tak t tk (.s i) = some (v, is)) : plainV (sl t i) = true ∧ ((v = sl t i ∧ is = [i] ∧ tk = true) ∨ (v = (sl t i).shrT ∧ is = [] ∧ tk = false)) := by
  simp only [tak] at h
  split at h
  · cases h
  · cases h
  · rename_i hx hy
    refine ⟨?_, ?_⟩
    · generalize sl t i = x at *
      cases x <;> first | rfl | simp_all [plainV]
    · cases tk
      · simp at h; right; exact ⟨h.1.symm, h.2, rfl⟩
      · simp at h; left; exact ⟨h.1.symm, h.2.symm, rfl⟩
/-- A value that is taken: either it owns nothing, or it is what a slot holds, with what that owns. -/
theorem tak_spec (hI : Inv w g ow st a) {o : Operand} {x : Src} {tk : Bool} {v : TV} {is : List Nat} (hc : chkS o x = true) (he : tak st.t tk x = some (v, is)) :
    VR w g st.h.length v (a.eval o) ∧ plainV v = true ∧ ((is = [] ∧ ∀ w' g' ow' q, Owns w' g' ow' q v (a.eval o)) ∨ ∃ i, is = [i] ∧ v = sl st.t i ∧ Owns w g ow [0, i] v (a.eval o)) := by
  unfold chkS at hc
  split at hc
  · obtain rfl := eq_of_beq hc
    obtain ⟨hp, ⟨rfl, rfl, _⟩ | ⟨rfl, rfl, _⟩⟩ := tak_s he
    · obtain ⟨h1, h2⟩ := hI.plain hp
      exact ⟨h1, hp, .inr ⟨_, rfl, rfl, h2⟩⟩
    · obtain ⟨h1, h2⟩ := hI.plain hp
      exact ⟨h1.shrT, plain_shrT _ hp, .inl ⟨rfl, fun _ _ _ _ => h1.owns_shrT⟩⟩
  · obtain ⟨h1, h2, h3⟩ := cvalA_VR (w := w) (g := g) (m := st.h.length) hc
    cases tk
    · simp only [tak, Bool.false_eq_true, if_false, Option.some.injEq, Prod.mk.injEq] at he
      obtain ⟨rfl, rfl⟩ := he
      exact ⟨h1.shrT, plain_shrT _ h2, .inl ⟨rfl, fun _ _ _ _ => h1.owns_shrT⟩⟩
    · simp only [tak, if_true, Option.some.injEq, Prod.mk.injEq] at he
      obtain ⟨rfl, rfl⟩ := he
      exact ⟨h1, h2, .inl ⟨rfl, h3⟩⟩
  · obtain rfl := eq_of_beq hc
    cases tk
    · simp only [tak, Bool.false_eq_true, if_false, Option.some.injEq, Prod.mk.injEq] at he
      obtain ⟨rfl, rfl⟩ := he
      exact ⟨.fn _ [] #[] rfl (by simp) (by simp), rfl, .inl ⟨rfl, fun _ _ _ _ => owns_cell rfl rfl⟩⟩
    · simp only [tak, if_true, Option.some.injEq, Prod.mk.injEq] at he
      obtain ⟨rfl, rfl⟩ := he
      exact ⟨.fn _ [] #[] rfl (by simp) (by simp), rfl, .inl ⟨rfl, fun _ _ _ _ => owns_cell rfl rfl⟩⟩
  · cases hc

/-- A slot that owns nothing any more. -/
theorem Inv.down (hI : Inv w g ow st a) (i : Nat) (hp : plainV (sl st.t i) = true) : Inv w g ow { st with t := st.t.set i (sl st.t i).shrT } a where
  defers := hI.defers
  len := by simpa using hI.len
  bd := hI.bd
  base := hI.base
  box := hI.box
  slot j := by
    have hj := hI.slot j
    by_cases h : i = j ∧ j < st.t.length
    · obtain ⟨rfl, hl⟩ := h
      obtain ⟨h1, h2⟩ := hI.plain hp
      rw [sl_set, if_pos ⟨rfl, hl⟩]
      exact (SlotR.plain (plain_shrT _ hp)).2 ⟨h1.shrT, h1.owns_shrT⟩
    · rw [sl_set, if_neg h]
      generalize hx : sl st.t j = x at hj ⊢
      cases x <;> try exact hj
      case lp b o =>
        intro cs hb
        refine hj cs ?_
        rw [sl_set] at hb
        split at hb
        · rename_i hh
          obtain ⟨rfl, _⟩ := hh
          have := plain_shrT _ hp
          rw [hb] at this
          simp [plainV] at this
        · exact hb
/-- What is written into a slot. -/
theorem Inv.put (hI : Inv w g ow st a) (d : Nat) {x : TV} {v : Value} (hx : plainV x = true) (hv : VR w g st.h.length x v) (ho : Owns w g ow [0, d] x v) : Inv w g ow { st with t := st.t.set d x } (a.put (some d) v) where
  defers := hI.defers
  len := by simpa [Act.put] using hI.len
  bd := hI.bd
  base := hI.base
  box := hI.box
  slot j := by
    have hj := hI.slot j
    rw [getD_put, sl_set, ← hI.len]
    by_cases h : d = j ∧ j < st.t.length
    · obtain ⟨rfl, hl⟩ := h
      rw [if_pos ⟨rfl, hl⟩, if_pos ⟨rfl, hl⟩]
      exact (SlotR.plain hx).2 ⟨hv, ho⟩
    · rw [if_neg h, if_neg h]
      generalize hy : sl st.t j = y at hj ⊢
      cases y <;> try exact hj
      case lp b o =>
        intro cs hb
        rw [sl_set] at hb
        split at hb
        · rw [hb] at hx; simp [plainV] at hx
        · rename_i hn
          obtain ⟨k, h1, h2⟩ := hj cs hb
          refine ⟨k, ?_, h2⟩
          rw [getD_put, ← hI.len, if_neg hn]
          exact h1
/-- A pointer into a box of the frame, written into a slot. -/
theorem Inv.putLp (hI : Inv w g ow st a) (d b o : Nat) {v : Value} (hv : ∀ cs, sl st.t b = .lbox cs → ∃ k, a.tmps.getD b undef = .pointer (some (at_ k 0)) ∧ v = .pointer (some (at_ k o))) :
    Inv w g ow { st with t := st.t.set d (.lp b o) } (a.put (some d) v) where
  defers := hI.defers
  len := by simpa [Act.put] using hI.len
  bd := hI.bd
  base := hI.base
  box := hI.box
  slot j := by
    have hj := hI.slot j
    have key : ∀ (b' : Nat) cs, sl (st.t.set d (.lp b o)) b' = .lbox cs → sl st.t b' = .lbox cs ∧ (a.put (some d) v).tmps.getD b' undef = a.tmps.getD b' undef := by
      intro b' cs hb
      rw [sl_set] at hb
      split at hb
      · cases hb
      · rename_i hn
        refine ⟨hb, ?_⟩
        rw [getD_put, ← hI.len, if_neg hn]
    rw [sl_set]
    by_cases h : d = j ∧ j < st.t.length
    · obtain ⟨rfl, hl⟩ := h
      rw [if_pos ⟨rfl, hl⟩]
      intro cs hb
      obtain ⟨e1, e2⟩ := key b cs hb
      obtain ⟨k, h1, h2⟩ := hv cs e1
      refine ⟨k, by rw [e2]; exact h1, ?_⟩
      rw [getD_put, ← hI.len, if_pos ⟨rfl, hl⟩]
      exact h2
    · rw [if_neg h, getD_put, ← hI.len, if_neg h]
      generalize hy : sl st.t j = y at hj ⊢
      cases y <;> try exact hj
      case lp b' o' =>
        intro cs hb
        obtain ⟨e1, e2⟩ := key b' cs hb
        obtain ⟨k, h1, h2⟩ := hj cs e1
        exact ⟨k, by rw [e2]; exact h1, h2⟩
/-- The world goes on, and what the frame has is as it was. -/
theorem Inv.mono (hI : Inv w g ow st a) {w' : World} {g' : Gh} {ow' : Ow} (hs : Stp w g ow st.h.length w' g' ow') (hk : ∀ b q, ow b = some q → q.head? = some 0 ∨ q.head? = some 1 → w'.heap[b]? = w.heap[b]? ∧ g'.imm b = g.imm b ∧ ow' b = ow b)
    (hb : ∀ b q, ow' b = some q → b < w'.heap.size) : Inv w' g' ow' st a where
  defers := hI.defers
  len := hI.len
  bd := hb
  base := hI.base
  box i cs hi := by
    have hlt : i < st.h.length := (List.getElem?_eq_some_iff.1 hi).1
    rw [hs.nu i hlt]
    exact (hI.box i cs hi).mono hs (Nat.le_refl _) (fun b p hbp => hk b _ hbp (.inr rfl))
  slot j := by
    have hj := hI.slot j
    generalize sl st.t j = x at hj ⊢
    have hkj : ∀ b p, ow b = some ([0, j] ++ p) → w'.heap[b]? = w.heap[b]? ∧ g'.imm b = g.imm b ∧ ow' b = ow b := fun b p hbp => hk b _ hbp (.inl rfl)
    cases x <;> first | exact ⟨hj.1.mono hs (Nat.le_refl _), hj.2.mono hkj⟩ | skip
    case lbox cs =>
      obtain ⟨b, h1, h2⟩ := hj
      exact ⟨b, h1, h2.mono hs (Nat.le_refl _) hkj⟩
    case lp b o => exact hj
/-- What is owned at one place is owned at another one. -/
def mvO (ow : Ow) (q q' : List Nat) : Ow := fun b => match ow b with
  | some r => if q.isPrefixOf r then some (q' ++ r.drop q.length) else some r
  | none => none
theorem mvO_at {ow : Ow} {q q' p : List Nat} {b : Nat} (h : ow b = some (q ++ p)) : mvO ow q q' b = some (q' ++ p) := by
  simp [mvO, h]
theorem mvO_none {ow : Ow} {q q' : List Nat} {b : Nat} : mvO ow q q' b = none ↔ ow b = none := by
  unfold mvO
  cases h : ow b with
  | none => simp
  | some r => simp; split <;> simp
theorem mvO_far {ow : Ow} {q q' : List Nat} {b : Nat} {r : List Nat} (h : ow b = some r) (hn : q.isPrefixOf r = false) : mvO ow q q' b = some r := by
  simp [mvO, h, hn]
theorem pre_slot {i j : Nat} {p : List Nat} (h : i ≠ j) : List.isPrefixOf [0, i] ([0, j] ++ p) = false := by
  simp [List.isPrefixOf, h]
theorem mvO_some {ow : Ow} {q q' r : List Nat} {b : Nat} (h : mvO ow q q' b = some r) : (∃ p, ow b = some (q ++ p) ∧ r = q' ++ p) ∨ (ow b = some r ∧ q.isPrefixOf r = false) := by
  unfold mvO at h
  split at h
  · rename_i s hs
    split at h
    · rename_i hpre
      obtain ⟨p, rfl⟩ := List.isPrefixOf_iff_prefix.1 hpre
      left
      exact ⟨p, hs, by simpa using h.symm⟩
    · rename_i hpre
      obtain rfl : s = r := by simpa using h
      right
      exact ⟨hs, by cases hh : q.isPrefixOf s <;> first | rfl | exact absurd hh hpre⟩
  · cases h
/-- A place that nobody holds any more is given another name. -/
theorem Stp.free {w : World} {g : Gh} {ow : Ow} {m : Nat} (hbd : ∀ b q, ow b = some q → b < w.heap.size) (q : List Nat) (k : Nat) (q' : List Nat) (hq : q.head? ≠ some 2) (hq0 : q ≠ []) (hk : k ≠ 2) : Stp w g ow m w g (mvO ow q (k :: q')) := by
  have hn2 : ∀ r, q.isPrefixOf (2 :: r) = false := by
    intro r
    cases q with
    | nil => exact absurd rfl hq0
    | cons x xs => simp at hq; simp [List.isPrefixOf, hq]
  refine ⟨rfl, rfl, rfl, Nat.le_refl _, fun _ _ _ _ => rfl, fun _ _ => Nat.le_refl _, fun _ _ => rfl, fun b vs ty fr hh => ⟨vs, fr, hh, rfl⟩, fun b hb hf => ⟨rfl, rfl, ?_⟩, fun b r hr => ?_⟩
  · rcases hf with hf | ⟨r, hf⟩
    · rw [hf]; exact mvO_none.2 hf
    · rw [hf]; exact mvO_far hf (hn2 r)
  · rcases mvO_some hr with ⟨p, _, h⟩ | ⟨h, _⟩
    · simp at h; exact absurd h.1.symm hk
    · exact ⟨hbd b _ h, h⟩
theorem mvO_bd {w : World} {ow : Ow} {q q' : List Nat} (hbd : ∀ b q, ow b = some q → b < w.heap.size) : ∀ b r, mvO ow q q' b = some r → b < w.heap.size := by
  intro b r hr
  rcases mvO_some hr with ⟨p, h, _⟩ | ⟨h, _⟩
  · exact hbd b _ h
  · exact hbd b _ h
/-- A slot that owns nothing gives its place away. -/
theorem Inv.free (hI : Inv w g ow st a) (i k : Nat) (q' : List Nat) (hp : plainV (sl st.t i) = true) (hn : ∀ ow', Owns w g ow' [0, i] (sl st.t i) (a.tmps.getD i undef)) :
    Inv w g (mvO ow [0, i] (k :: q')) st a where
  defers := hI.defers
  len := hI.len
  base := hI.base
  bd := mvO_bd hI.bd
  box j cs hj := by
    intro hdd
    obtain ⟨vs, ty, fr, h1, h2, h3, h4, h5, h6⟩ := hI.box j cs hj hdd
    refine ⟨vs, ty, fr, h1, h2, h3, h4, mvO_far h5 (by simp [List.isPrefixOf]), fun x y v hx hv => ?_⟩
    obtain ⟨c1, c2, c3⟩ := h6 x y v hx hv
    exact ⟨c1, c2, c3.mono (fun b p hb => ⟨rfl, rfl, by rw [hb]; exact mvO_far hb (by simp [List.isPrefixOf])⟩)⟩
  slot j := by
    by_cases hij : i = j
    · subst hij
      exact (SlotR.plain hp).2 ⟨(hI.plain hp).1, hn _⟩
    · have hj := hI.slot j
      generalize sl st.t j = x at hj ⊢
      have hk : ∀ b p, ow b = some ([0, j] ++ p) → mvO ow [0, i] (k :: q') b = ow b := fun b p hb => by rw [hb]; exact mvO_far hb (pre_slot hij)
      cases x <;> first | exact ⟨hj.1, hj.2.mono (fun b p hb => ⟨rfl, rfl, hk b p hb⟩)⟩ | skip
      case lbox cs =>
        obtain ⟨b, h1, vs, ty, fr, r1, r2, r3, r4, r5, r6⟩ := hj
        refine ⟨b, h1, vs, ty, fr, r1, r2, r3, r4, by rw [hk b [] (by simpa using r5)]; exact r5, fun x y v hx hv => ?_⟩
        obtain ⟨c1, c2, c3⟩ := r6 x y v hx hv
        exact ⟨c1, c2, c3.mono (fun b' p hb => ⟨rfl, rfl, hk b' ([x] ++ p) (by rw [hb]; simp)⟩)⟩
      case lp b o => exact hj
end
end Go.T
/- Each operation of the small machine is what the model's does. -/
set_option linter.unusedVariables false
set_option linter.unusedSimpArgs false
set_option maxRecDepth 10000
namespace Go.T

/-- What is told behind an operation. -/
def Nxt (w : World) (g : Gh) (ow : Ow) (m : Nat) (st' : St) : Act → World → Prop := fun a' w' => ∃ g' ow', Stp w g ow m w' g' ow' ∧ Inv w' g' ow' st' a'

section
variable {P : Program} {w : World} {g : Gh} {ow : Ow} {st : St} {a : Act} {o : Oper} {dst : Option Nat}
theorem wp_val {K : Act → World → Prop} {Q : Exit → Act → World → Prop} {v : Value} {w' : World} (h : (execOp a.eval o).run P w = .ok (.value v) w') (hk : K (a.put o.dst v) w') : o.wp P a w K Q := by
  unfold Oper.wp
  rw [h]
  exact hk
theorem wp_skp {K : Act → World → Prop} {Q : Exit → Act → World → Prop} {w' : World} (h : (execOp a.eval o).run P w = .ok .skip w') (hk : K (a.put o.dst undef) w') : o.wp P a w K Q := by
  unfold Oper.wp
  rw [h]
  exact hk
theorem Inv.refl (hI : Inv w g ow st a) : Stp w g ow st.h.length w g ow := Stp.refl w g ow _ hI.bd
theorem Inv.ap0 (hI : Inv w g ow st a) (dst : Option Nat) {x : TV} {v : Value} (hv : VR w g st.h.length x v) (hx : plainV x = true) (ho : ∀ w' g' ow' q, Owns w' g' ow' q x v) : Inv w g ow (({ v := x } : Dl).ap dst st) (a.put dst v) := by
  cases dst with
  | none => exact ⟨hI.defers, hI.len, hI.slot, hI.box, hI.bd, hI.base⟩
  | some i => exact hI.put i hx hv (ho _ _ _ _)
theorem Inv.nx0 (hI : Inv w g ow st a) (dst : Option Nat) {x : TV} {v : Value} (h : VR w g st.h.length x v ∧ plainV x = true ∧ ∀ w' g' ow' q, Owns w' g' ow' q x v) : Nxt w g ow st.h.length (({ v := x } : Dl).ap dst st) (a.put dst v) w :=
  ⟨g, ow, hI.refl, hI.ap0 dst h.1 h.2.1 h.2.2⟩
/-- A cell that owns nothing. -/
theorem cellR {x : TV} {v : Value} {m : Nat} (h : VR w g m x v) (hc : x.isCell = true) (hn : x.noOwn = true) : VR w g m x v ∧ plainV x = true ∧ ∀ w' g' ow' q, Owns w' g' ow' q x v :=
  ⟨h, by cases x <;> first | rfl | simp [TV.isCell] at hc, fun _ _ _ _ => owns_cell hc hn⟩
theorem Inv.apT (hI : Inv w g ow st a) (dst : Option Nat) {x : TV} {v : Value} {is : List Nat} (hv : VR w g st.h.length x v) (hx : plainV x = true)
    (ho : (is = [] ∧ ∀ w' g' ow' q, Owns w' g' ow' q x v) ∨ ∃ i, is = [i] ∧ x = sl st.t i ∧ Owns w g ow [0, i] x v) : Nxt w g ow st.h.length (({ v := x, tk := is } : Dl).ap dst st) (a.put dst v) w := by
  rcases ho with ⟨rfl, ho⟩ | ⟨i, rfl, hxi, ho⟩
  · exact hI.nx0 dst ⟨hv, hx, ho⟩
  · have hp : plainV (sl st.t i) = true := hxi ▸ hx
    have h1 := hI.down i hp
    have hsl : ∀ j, sl (st.t.set i (sl st.t i).shrT) j = if i = j ∧ j < st.t.length then (sl st.t i).shrT else sl st.t j := fun j => sl_set _ _ _ _
    have hpi : plainV (sl (st.t.set i (sl st.t i).shrT) i) = true := by
      rw [hsl]; split
      · exact plain_shrT _ hp
      · exact hp
    cases dst with
    | none => exact ⟨g, ow, hI.refl, h1.defers, h1.len, h1.slot, h1.box, h1.bd, h1.base⟩
    | some j =>
      have hpoor : ∀ ow', Owns w g ow' [0, i] (sl (st.t.set i (sl st.t i).shrT) i) (a.tmps.getD i undef) := by
        intro ow'
        rw [hsl]
        split
        · exact (hI.plain hp).1.owns_shrT
        · rename_i hn
          have hlt : ¬ i < st.t.length := fun h => hn ⟨rfl, h⟩
          have : sl st.t i = .junk := by simp [sl, List.getElem?_eq_none (Nat.le_of_not_lt hlt)]
          rw [this]
          intro p sz s l A n c hs
          cases hs
      have h2 := h1.free i 0 [j] hpi hpoor
      refine ⟨g, mvO ow [0, i] [0, j], Stp.free hI.bd [0, i] 0 [j] (by simp) (by simp) (by simp), ?_⟩
      exact h2.put j hx hv (ho.move (fun b p hb => ⟨rfl, rfl, mvO_at hb⟩))

theorem snd_mv {tk : Bool} {x : Src} {d : Dl} (hc : chkOp P o.op (.mv tk x) = true) (hI : Inv w g ow st a) {call : CallF} (hd : delta call st (.mv tk x) = some d) {Q : Exit → Act → World → Prop} :
    o.wp P a w (Nxt w g ow st.h.length (d.ap o.dst st)) Q := by
  simp only [delta] at hd
  split at hd
  · rename_i v i ht
    obtain rfl : ({ v := v, tk := i } : Dl) = d := by simpa using hd
    cases hop : o.op <;> rw [hop] at hc <;> simp [chkOp] at hc
    all_goals
      rename_i y
      obtain ⟨h1, h2, h3⟩ := tak_spec hI hc ht
      exact wp_val (by unfold execOp; rw [hop]; rfl) (hI.apT o.dst h1 h2 h3)
  · cases hd
theorem snd_pick {c x y : Src} {d : Dl} (hc : chkOp P o.op (.pick c x y) = true) (hI : Inv w g ow st a) {call : CallF} (hd : delta call st (.pick c x y) = some d) {Q : Exit → Act → World → Prop} :
    o.wp P a w (Nxt w g ow st.h.length (d.ap o.dst st)) Q := by
  simp only [delta] at hd
  split at hd
  · rename_i b v u e1 e2 e3
    obtain rfl : ({ v := if b then v else u } : Dl) = d := by simpa using hd
    cases hop : o.op <;> rw [hop] at hc <;> simp [chkOp] at hc
    obtain ⟨⟨c1, c2⟩, c3⟩ := hc
    have h1 := ev_spec hI c1 e1
    have h2 := ev_spec hI c2 e2
    have h3 := ev_spec hI c3 e3
    rename_i x1 x2 x3
    obtain ⟨hb, _, _⟩ := h1
    generalize hq : a.eval x1 = q at hb
    cases hb
    cases b
    · refine wp_val (v := a.eval x3) (w' := w) ?_ (hI.nx0 o.dst h3)
      unfold execOp; rw [hop]; simp [hq, asBool]
    · refine wp_val (v := a.eval x2) (w' := w) ?_ (hI.nx0 o.dst h2)
      unfold execOp; rw [hop]; simp [hq, asBool]
  · cases hd
theorem strEq (a b : ByteArray) : (a.toList == b.toList) = decide (a = b) := by
  rw [ByteArray.toList_eq, ByteArray.toList_eq]
  by_cases h : a = b
  · subst h; simp
  · have : a.data.toList ≠ b.data.toList := fun e => h (by
      obtain ⟨⟨x⟩⟩ := a
      obtain ⟨⟨y⟩⟩ := b
      simp at e
      rw [e])
    simp [h]
    exact fun e => this (by rw [e])
theorem VR.int_inv {m : Nat} {k : IntKind} {n : Int} {v : Value} (h : VR w g m (.int k n) v) : v = .int k n := by cases h; rfl
theorem VR.bool_inv {m : Nat} {b : Bool} {v : Value} (h : VR w g m (.bool b) v) : v = .bool b := by cases h; rfl
theorem VR.str_inv {m : Nat} {s : ByteArray} {v : Value} (h : VR w g m (.str s) v) : v = .string s := by cases h; rfl
theorem arith_run {op : BinOp} {tx ty tv : TV} {u v : Value} {m : Nat} (h : arith op tx ty = some tv) (hu : VR w g m tx u) (hv : VR w g m ty v) (t : TypeId) (x y : Operand) :
    ∃ r, ((do eqGuard op t x y u v; binOp op t u v) : Sem Value).run P w = .ok r w ∧ VR w g m tv r ∧ tv.isCell = true ∧ tv.noOwn = true := by
  unfold arith at h
  split at h <;> first | (cases h; done) | skip
  all_goals
    first
    | (obtain rfl := hu.int_inv; obtain rfl := hv.int_inv)
    | (obtain rfl := hu.str_inv; obtain rfl := hv.str_inv)
  all_goals
    try (split at h)
  all_goals
    first
    | (cases h; done)
    | (obtain rfl := Option.some.inj h)
  all_goals
    first
    | (refine ⟨.int _ _, ?_, .int _ _, rfl, rfl⟩)
    | (refine ⟨.bool _, ?_, .bool _, rfl, rfl⟩)
    | (refine ⟨.string _, ?_, .str _, rfl, rfl⟩)
  all_goals
    first
    | (rename_i hk; obtain ⟨rfl, hk⟩ := hk; simp [eqGuard, binOp, Op.intDiv, hk]; done)
    | (rename_i hk; subst hk; simp [eqGuard, binOp, Op.intArith, Op.intBits, Op.intCmp]; done)
    | (rename_i hk; simp [eqGuard, binOp, Op.shift, hk]; done)
    | (rename_i hk; simp only [eqGuard, binOp, Op.stringOp, if_neg hk]; rfl)
    | (simp [eqGuard, binOp, Op.stringOp, strEq]; done)
    | skip
theorem snd_ar {op : BinOp} {x y : Src} {d : Dl} (hc : chkOp P o.op (.ar op x y) = true) (hI : Inv w g ow st a) {call : CallF} (hd : delta call st (.ar op x y) = some d) {Q : Exit → Act → World → Prop} :
    o.wp P a w (Nxt w g ow st.h.length (d.ap o.dst st)) Q := by
  simp only [delta] at hd
  split at hd
  · rename_i u v e1 e2
    split at hd
    · rename_i r hr
      obtain rfl : ({ v := r } : Dl) = d := by simpa using hd
      cases hop : o.op <;> rw [hop] at hc <;> simp [chkOp] at hc
      obtain ⟨⟨rfl, c1⟩, c2⟩ := hc
      rename_i t x1 x2 t2
      obtain ⟨z, h1, h2, h3, h4⟩ := arith_run (P := P) hr (ev_spec hI c1 e1).1 (ev_spec hI c2 e2).1 t x1 x2
      refine wp_val (v := z) (w' := w) ?_ (hI.nx0 o.dst (cellR h2 h3 h4))
      unfold execOp; rw [hop]
      simp only [Sem.run_bind] at h1 ⊢
      rw [h1]; rfl
    · cases hd
  · cases hd
theorem snd_eqb {neg : Bool} {x y : Src} {d : Dl} (hc : chkOp P o.op (.eqb neg x y) = true) (hI : Inv w g ow st a) {call : CallF} (hd : delta call st (.eqb neg x y) = some d) {Q : Exit → Act → World → Prop} :
    o.wp P a w (Nxt w g ow st.h.length (d.ap o.dst st)) Q := by
  simp only [delta] at hd
  split at hd
  · rename_i b c e1 e2
    obtain rfl : ({ v := .bool (if neg then !(b == c) else b == c) } : Dl) = d := by simpa using hd
    cases hop : o.op <;> rw [hop] at hc <;> simp [chkOp] at hc
    obtain ⟨⟨⟨rfl, ht⟩, c1⟩, c2⟩ := hc
    rename_i t x1 x2 t2
    have h1 := (ev_spec hI c1 e1).1.bool_inv
    have h2 := (ev_spec hI c2 e2).1.bool_inv
    have hu : P.underlying t = some .bool := by split at ht <;> first | assumption | cases ht
    refine wp_val (v := .bool (if neg then !(b == c) else b == c)) (w' := w) ?_ (hI.nx0 o.dst (cellR (.bool _) rfl rfl))
    unfold execOp; rw [hop]
    cases neg <;> simp [h1, h2, eqGuard, binOp, Op.equal, Op.maxDepth, run_equalIn_bool' w 9999 t b c hu]
  · cases hd
theorem run_eqp_nil {t : TypeId} {e : TypeId} (ht : P.underlying t = some (.pointer e)) (p q : Option Addr) (h : p = none ∨ q = none) : (Op.equal t (.pointer p) (.pointer q)).run P w = .ok (decide (p = none ∧ q = none)) w := by
  have key : ∀ d, (Op.equalIn (d + 1) t (.pointer p) (.pointer q)).run P w = .ok (decide (p = none ∧ q = none)) w := by
    intro d
    rcases h with rfl | rfl
    · cases q <;> simp [Op.equalIn, run_underlying ht]
    · cases p <;> simp [Op.equalIn, run_underlying ht]
  exact key 9999
theorem snd_eqp {neg : Bool} {x y : Src} {d : Dl} (hc : chkOp P o.op (.eqp neg x y) = true) (hI : Inv w g ow st a) {call : CallF} (hd : delta call st (.eqp neg x y) = some d) {Q : Exit → Act → World → Prop} :
    o.wp P a w (Nxt w g ow st.h.length (d.ap o.dst st)) Q := by
  cases hop : o.op <;> rw [hop] at hc <;> simp [chkOp] at hc
  obtain ⟨⟨⟨rfl, ht⟩, c1⟩, c2⟩ := hc
  rename_i t x1 x2 t2
  obtain ⟨e, hu⟩ : ∃ e, P.underlying t = some (.pointer e) := by split at ht <;> first | exact ⟨_, by assumption⟩ | cases ht
  have key : ∀ (p q : Option Addr) (b : Bool), a.eval x1 = .pointer p → a.eval x2 = .pointer q → (p = none ∨ q = none) → b = decide (p = none ∧ q = none) → o.wp P a w (Nxt w g ow st.h.length (({ v := .bool (if neg then !b else b) } : Dl).ap o.dst st)) Q := by
    intro p q b h1 h2 h3 hb
    refine wp_val (v := .bool (if neg then !b else b)) (w' := w) ?_ (hI.nx0 o.dst (cellR (.bool _) rfl rfl))
    unfold execOp; rw [hop]
    have hr := run_eqp_nil (w := w) hu p q h3
    subst hb
    cases neg <;> simp [h1, h2, eqGuard, binOp, hr]
  simp only [delta] at hd
  split at hd
  · rename_i e1 e2
    have h1 := (ev_spec hI c1 e1).1; have h2 := (ev_spec hI c2 e2).1
    generalize hq1 : a.eval x1 = q1 at h1; generalize hq2 : a.eval x2 = q2 at h2
    cases h1; cases h2
    have := key none none true hq1 hq2 (.inl rfl) rfl
    obtain rfl : ({ v := .bool (if neg then false else true) } : Dl) = d := by simpa using hd
    cases neg <;> exact this
  all_goals first | (cases hd; done) | skip
  all_goals
    rename_i e1 e2
    have h1 := (ev_spec hI c1 e1).1; have h2 := (ev_spec hI c2 e2).1
    generalize hq1 : a.eval x1 = q1 at h1; generalize hq2 : a.eval x2 = q2 at h2
    cases h1; cases h2
    have := key _ _ false hq1 hq2 (by simp) (by simp)
    obtain rfl : ({ v := .bool (if neg then true else false) } : Dl) = d := by simpa using hd
    cases neg <;> exact this
/-- The cell of a struct's field. -/
theorem part_scalar {t : TypeId} (hg : aggB P t = some false) (cs : Array Value) (off : Nat) (v : Value) (h : cs[off]? = some v) : (part t cs off).run P w = .ok v w := by
  unfold aggB at hg
  split at hg <;> first | (cases hg; done) | skip
  rename_i d h1 h2 hd
  have : (isAgg t).run P w = .ok false w := by
    unfold isAgg
    rw [Sem.run_bind, run_underlying hd]
    cases d <;> first | rfl | exact (h1 _ rfl).elim | exact (h2 _ _ rfl).elim
  simp [part, this, h]
theorem eqCell_run {k : Nat} {x y : TV} {u v : Value} {m : Nat} {b : Bool} {t : TypeId} (d : Nat) (h : eqCell k x y = some b) (hx : VR w g m x u) (hy : VR w g m y v)
    (ht : (k = 0 ∧ ∃ ik, P.underlying t = some (.int ik)) ∨ (k = 1 ∧ P.underlying t = some .bool) ∨ (k = 2 ∧ P.underlying t = some .string)) : (Op.equalIn (d + 1) t u v).run P w = .ok b w := by
  unfold eqCell at h
  split at h
  · obtain rfl := hx.int_inv; obtain rfl := hy.int_inv
    rcases ht with ⟨_, ik, ht⟩ | ⟨h0, _⟩ | ⟨h0, _⟩ <;> first | cases h0 | skip
    split at h
    · rename_i hk; subst hk
      obtain rfl := Option.some.inj h
      exact run_equalIn_int w d _ _ ik _ _ ht
    · cases h
  · obtain rfl := hx.bool_inv; obtain rfl := hy.bool_inv
    rcases ht with ⟨h0, _⟩ | ⟨_, ht⟩ | ⟨h0, _⟩ <;> first | cases h0 | skip
    obtain rfl := Option.some.inj h
    exact run_equalIn_bool' w d _ _ _ ht
  · obtain rfl := hx.str_inv; obtain rfl := hy.str_inv
    rcases ht with ⟨h0, _⟩ | ⟨h0, _⟩ | ⟨_, ht⟩ <;> first | cases h0 | skip
    obtain rfl := Option.some.inj h
    rw [← strEq]
    exact run_equalIn_string w d _ _ _ ht
  · cases h
theorem run_eqFields (d : Nat) : ∀ (fs : List Field) (l : List (Nat × Nat)) (cs ds : List TV) (xs ys : Array Value) (m : Nat) (r : Bool), eqPlaces P fs = some l → VR w g m (.agg cs) (.agg xs) → VR w g m (.agg ds) (.agg ys) → eqCells cs ds l = some r →
    (Op.eqFields (d + 1) xs ys fs).run P w = .ok r w := by
  intro fs
  induction fs with
  | nil =>
    intro l cs ds xs ys m r hl hx hy hr
    simp only [eqPlaces, Option.some.injEq] at hl
    subst hl
    simp only [eqCells, Option.some.injEq] at hr
    subst hr
    rfl
  | cons f fs ih =>
    intro l cs ds xs ys m r hl hx hy hr
    simp only [eqPlaces] at hl
    split at hl
    · rename_i l' hl'
      split at hl
      · rename_i hname
        obtain rfl : l' = l := by simpa using hl
        have hname' : f.name = "_" := by simpa using hname
        simp only [Op.eqFields, hname', ne_eq, not_true_eq_false, if_false]
        exact ih _ cs ds xs ys m r hl' hx hy hr
      · rename_i hname
        have hname' : f.name ≠ "_" := by simpa using hname
        obtain ⟨k, hk, rfl⟩ : ∃ k, ((k = 0 ∧ ∃ ik, P.underlying f.type = some (.int ik)) ∨ (k = 1 ∧ P.underlying f.type = some .bool) ∨ (k = 2 ∧ P.underlying f.type = some .string)) ∧ (f.offset, k) :: l' = l := by
          split at hl <;> first | (cases hl; done) | skip
          · exact ⟨0, .inl ⟨rfl, _, by assumption⟩, by simpa using hl⟩
          · exact ⟨1, .inr (.inl ⟨rfl, by assumption⟩), by simpa using hl⟩
          · exact ⟨2, .inr (.inr ⟨rfl, by assumption⟩), by simpa using hl⟩
        simp only [eqCells] at hr
        split at hr
        · rename_i x y ex ey
          have hx' := hx
          have hy' := hy
          cases hx with
          | agg _ _ hlx hcx hrx =>
          cases hy with
          | agg _ _ hly hcy hry =>
          obtain ⟨u, hu⟩ : ∃ u, xs[f.offset]? = some u := by
            have := (List.getElem?_eq_some_iff.1 ex).1
            exact ⟨xs[f.offset]'(by omega), by simp⟩
          obtain ⟨v, hv⟩ : ∃ v, ys[f.offset]? = some v := by
            have := (List.getElem?_eq_some_iff.1 ey).1
            exact ⟨ys[f.offset]'(by omega), by simp⟩
          have hagg : aggB P f.type = some false := by
            unfold aggB
            rcases hk with ⟨_, ik, h⟩ | ⟨_, h⟩ | ⟨_, h⟩ <;> rw [h]
          have p1 := part_scalar (w := w) hagg xs f.offset u hu
          have p2 := part_scalar (w := w) hagg ys f.offset v hv
          cases hb : eqCell k x y with
          | none => rw [hb] at hr; cases hr
          | some b =>
            have p3 := eqCell_run (P := P) d hb (hrx _ _ _ ex hu) (hry _ _ _ ey hv) hk
            rw [hb] at hr
            simp only [Op.eqFields, hname', ne_eq, not_false_eq_true, if_true, Sem.run_bind, p1, p2, p3, Result.andThen_ok]
            cases b
            · simp only [Option.some.injEq] at hr
              subst hr
              rfl
            · simp only [Bool.not_true, Bool.false_eq_true, if_false]
              exact ih _ cs ds xs ys m r hl' hx' hy' hr
        · cases hr
    · cases hl
theorem snd_eqs {neg : Bool} {fs : List (Nat × Nat)} {x y : Src} {d : Dl} (hc : chkOp P o.op (.eqs neg fs x y) = true) (hI : Inv w g ow st a) {call : CallF} (hd : delta call st (.eqs neg fs x y) = some d) {Q : Exit → Act → World → Prop} :
    o.wp P a w (Nxt w g ow st.h.length (d.ap o.dst st)) Q := by
  simp only [delta] at hd
  split at hd
  · rename_i cs ds e1 e2
    split at hd
    · rename_i r hr
      obtain rfl : ({ v := .bool (if neg then !r else r) } : Dl) = d := by simpa using hd
      cases hop : o.op <;> rw [hop] at hc <;> simp [chkOp] at hc
      obtain ⟨⟨⟨⟨⟨rfl, ht⟩, hg1⟩, hg2⟩, c1⟩, c2⟩ := hc
      rename_i t x1 x2 t2
      have h1 := (ev_spec hI c1 e1).1
      have h2 := (ev_spec hI c2 e2).1
      split at ht <;> first | (cases ht; done) | skip
      rename_i fields hu
      have hl : eqPlaces P fields.toList = some fs := by simpa using ht
      generalize hq1 : a.eval x1 = q1 at h1; generalize hq2 : a.eval x2 = q2 at h2
      cases h1 with
      | agg _ xs hlx hcx hrx =>
      cases h2 with
      | agg _ ys hly hcy hry =>
      have hf : Program.fieldsOf P t = fields := by simp [Program.fieldsOf, hu]
      have hrun := run_eqFields (P := P) (w := w) (g := g) 9998 fields.toList fs cs ds xs ys _ r hl (.agg _ _ hlx hcx hrx) (.agg _ _ hly hcy hry) hr
      have hstr := run_equalIn_struct (P := P) w 9999 t xs ys (by rw [hf]; exact hu) hg2
      rw [hf, hrun] at hstr
      refine wp_val (v := .bool (if neg then !r else r)) (w' := w) ?_ (hI.nx0 o.dst (cellR (.bool _) rfl rfl))
      unfold execOp; rw [hop]
      have hg := run_eqGuard_agg (P := P) w (if neg then BinOp.neq else .eql) t x1 x2 xs ys hg1
      cases neg
      · simp only [Bool.false_eq_true, if_false] at hg ⊢
        simp only [hq1, hq2, Sem.run_bind, hg, Result.andThen_ok, run_eql_struct, hstr]
        rfl
      · simp only [if_true] at hg ⊢
        simp only [hq1, hq2, Sem.run_bind, hg, Result.andThen_ok, run_neq_struct, hstr]
        rfl
    · cases hd
  · cases hd
end
end Go.T
/- The elements of a row that lies in a box. -/
set_option linter.unusedVariables false
set_option linter.unusedSimpArgs false
set_option maxRecDepth 10000
namespace Go.T
theorem regroup_spec (ag : Bool) (sz : Nat) : ∀ (n : Nat) (cs : List TV), (regroup ag sz n cs).length = n ∧ ∀ (i : Nat) (e : TV), (regroup ag sz n cs)[i]? = some e → e = pack ag ((cs.drop (i * sz)).take sz) := by
  intro n
  induction n with
  | zero => intro cs; simp [regroup]
  | succ n ih =>
    intro cs
    obtain ⟨h1, h2⟩ := ih (cs.drop sz)
    refine ⟨by simp [regroup, h1], fun i e he => ?_⟩
    cases i with
    | zero => simp [regroup] at he; simpa using he.symm
    | succ i =>
      simp [regroup] at he
      rw [h2 i e he, List.drop_drop]
      congr 3
      rw [Nat.succ_mul]; omega
theorem isElt_cells {x : TV} (h : x.isElt = true) : x.cells = [x] := by
  cases x <;> first | rfl | simp [TV.isElt, TV.isCell] at h
theorem row_idx {n i j sz : Nat} (hi : i < n) (hj : j < sz) : i * sz + j < n * sz := by
  have : (i + 1) * sz ≤ n * sz := Nat.mul_le_mul_right _ hi
  rw [Nat.succ_mul] at this; omega
theorem regroup_cells {ag : Bool} {sz n : Nat} {cs : List TV} (hz : 0 < sz) (hag : ag = true ∨ sz = 1) (hlen : n * sz ≤ cs.length) (hel : ∀ k x, k < n * sz → cs[k]? = some x → x.isElt = true) :
    ∀ (i : Nat) (e : TV), (regroup ag sz n cs)[i]? = some e → i < n ∧ e.cells.length = sz ∧ ∀ j x, e.cells[j]? = some x → j < sz ∧ cs[i * sz + j]? = some x ∧ x.isElt = true := by
  intro i e he
  obtain ⟨g1, g2⟩ := regroup_spec ag sz n cs
  have hi : i < n := by have := (List.getElem?_eq_some_iff.1 he).1; omega
  have hle : i * sz + sz ≤ cs.length := by
    have : (i + 1) * sz ≤ n * sz := Nat.mul_le_mul_right _ hi
    rw [Nat.succ_mul] at this; omega
  have hlen2 : ((cs.drop (i * sz)).take sz).length = sz := by simp; omega
  have he' := g2 i e he
  have key : e.cells = (cs.drop (i * sz)).take sz := by
    cases ag with
    | true => simp [pack] at he'; subst he'; rfl
    | false =>
      have hsz := hag.resolve_left (by simp)
      subst hsz
      simp only [Nat.mul_one] at *
      have hlt : i < cs.length := by omega
      have hd : (cs.drop i).take 1 = [cs[i]] := by rw [List.drop_eq_getElem_cons hlt]; rfl
      rw [hd] at he' ⊢
      simp [pack] at he'
      subst he'
      exact isElt_cells (hel i _ hi (by simp [hlt]))
  refine ⟨hi, by rw [key]; exact hlen2, fun j x hx => ?_⟩
  rw [key] at hx
  have hj : j < sz := by have := (List.getElem?_eq_some_iff.1 hx).1; omega
  rw [List.getElem?_take, if_pos hj, List.getElem?_drop] at hx
  exact ⟨hj, hx, hel _ x (row_idx hi hj) hx⟩
theorem flat_idx {sz : Nat} (hz : 0 < sz) : ∀ (l : List TV), okW sz l = true → (flat l).length = l.length * sz ∧ ∀ (k : Nat) (x : TV), (flat l)[k]? = some x → ∃ e, l[k / sz]? = some e ∧ e.cells[k % sz]? = some x := by
  intro l
  induction l with
  | nil => intro _; simp [flat]
  | cons a l ih =>
    intro hw
    simp only [okW, List.all_cons, Bool.and_eq_true, beq_iff_eq] at hw
    obtain ⟨h1, h2⟩ := hw
    obtain ⟨i1, i2⟩ := ih h2
    have hf : flat (a :: l) = a.cells ++ flat l := rfl
    refine ⟨by rw [hf, List.length_append, i1, h1, List.length_cons, Nat.succ_mul]; omega, fun k x hx => ?_⟩
    rw [hf, List.getElem?_append] at hx
    split at hx
    · rename_i hlt
      rw [h1] at hlt
      exact ⟨a, by rw [Nat.div_eq_of_lt hlt]; rfl, by rw [Nat.mod_eq_of_lt hlt]; exact hx⟩
    · rename_i hge
      rw [h1] at hge hx
      obtain ⟨e, e1, e2⟩ := i2 _ x hx
      have hk : k = (k - sz) + sz := by omega
      refine ⟨e, ?_, ?_⟩
      · rw [hk, Nat.add_div_right _ hz, List.getElem?_cons_succ]; exact e1
      · rw [hk, Nat.add_mod_right]; exact e2
theorem elS_asl {h : Heap} {ag : Bool} {sz i o n : Nat} {l : List TV} (hl : elS h (.asl ag sz i o n) = some l) : ∃ cs, live h i = some cs ∧ o + n * sz ≤ cs.length ∧ 0 < sz ∧ (ag = true ∨ sz = 1) ∧ l = regroup ag sz n (((cs.drop o).take (n * sz)).map TV.shr0) ∧ l.length = n ∧
    ∀ (k : Nat) (e : TV), l[k]? = some e → k < n ∧ e.cells.length = sz ∧ ∀ j x, e.cells[j]? = some x → j < sz ∧ x.isElt = true ∧ ∃ y, cs[o + (k * sz + j)]? = some y ∧ x = y.shr0 := by
  simp only [elS] at hl
  split at hl
  · rename_i cs hcs
    split at hl
    · rename_i vs hvs
      split at hl
      · rename_i hc
        simp only [Bool.and_eq_true, decide_eq_true_eq, Bool.or_eq_true] at hc
        obtain ⟨⟨hel, hz⟩, hag⟩ := hc
        obtain rfl := Option.some.inj hl
        unfold cut at hvs
        split at hvs
        · rename_i hle
          obtain rfl := Option.some.inj hvs
          refine ⟨cs, hcs, hle, hz, hag, rfl, (regroup_spec _ _ _ _).1, fun k e he => ?_⟩
          obtain ⟨k1, k2, k3⟩ := regroup_cells hz hag (by simp; omega) (fun k x hk hx => List.all_eq_true.1 hel x (List.mem_of_getElem? hx)) k e he
          refine ⟨k1, k2, fun j x hx => ?_⟩
          obtain ⟨m1, m2, m3⟩ := k3 j x hx
          refine ⟨m1, m3, ?_⟩
          obtain ⟨y, hy, rfl⟩ := getElem?_map_some m2
          rw [List.getElem?_take, if_pos (row_idx k1 m1), List.getElem?_drop] at hy
          exact ⟨y, hy, rfl⟩
        · cases hvs
      · cases hl
    · cases hl
  · cases hl
section
variable {w : World} {g : Gh} {ow : Ow} {m : Nat}
/-- The elements of whatever slice, as if they never changed. -/
theorem els_sl {h : Heap} (hbox : ∀ (i : Nat) cs, h[i]? = some cs → BoxD w g m ow [1, i] cs (g.nu i)) (hbd : ∀ b q, ow b = some q → b < w.heap.size) {x : TV} {v : Value} {l : List TV} (hv : VR w g m x v) (hl : elS h x = some l) :
    ∃ A c g', v = .slice A l.length c ∧ VR w g' m (.sl .shr l) v ∧ (∀ (i : Nat) (e : TV) (j : Nat) (y : TV) (ad : Addr) (u : Value) (sz : Nat), A = some ad → l[i]? = some e → e.cells.length = sz → e.cells[j]? = some y → w.cell? (at_ ad.block (ad.off + (i * sz + j))) = some u → VR w g m y u) := by
  cases hv with
  | sl t l' A c sz vals hz hc hm hA hn he h hr =>
    obtain rfl := Option.some.inj hl
    refine ⟨A, c, g, rfl, .sl .shr _ A c sz vals hz hc hm hA hn he h hr, fun i e j y ad u sz' ha hi hs hj hu => ?_⟩
    have hsz : sz' = sz := by rw [← hs]; exact he e (List.mem_of_getElem? hi)
    subst hsz
    obtain ⟨_, _, k3⟩ := h ad i e j y ha hi hj
    rw [k3] at hu
    obtain rfl := Option.some.inj hu
    exact hr i e j y hi hj
  | nils A hA =>
    obtain rfl := Option.some.inj hl
    exact ⟨A, 0, g, rfl, .sl .shr [] A 0 1 (fun _ _ => default) (by decide) (by simp) (by simp) hA (fun _ => rfl) (by simp) (by simp) (by simp), by simp⟩
  | asl ag sz i o n c hi hc hm hrow =>
    obtain ⟨cs, hcs, hle, hz, hag, hleq, hln, hel⟩ := elS_asl hl
    obtain ⟨c1, c2⟩ := live_some hcs
    obtain ⟨row, ty, fr, r1, r2, r3, r4, r5, r6⟩ := hbox i cs c1 c2
    obtain ⟨b, hb⟩ : ∃ b, b = g.nu i := ⟨_, rfl⟩
    have hs : Stp w g ow m w ⟨fun c => if c = b then row.size else g.imm c, g.nu⟩ ow := by
      refine ⟨rfl, rfl, rfl, Nat.le_refl _, fun _ _ _ _ => rfl, fun c _ => ?_, fun _ _ => rfl, fun b vs ty fr hh => ⟨vs, fr, hh, rfl⟩, fun c hc hf => ?_, fun c q hq => ⟨hbd c _ hq, hq⟩⟩
      · show g.imm c ≤ if c = b then row.size else g.imm c
        split
        · rename_i hcb; rw [hcb, hb, r4]; exact Nat.zero_le _
        · exact Nat.le_refl _
      · have hcb : c ≠ b := by
          rintro rfl
          rw [hb, r5] at hf
          rcases hf with hf | ⟨q, hf⟩ <;> simp at hf
        simp [hcb]
    have cell : ∀ (k : Nat) (e : TV) (j : Nat) (y : TV), l[k]? = some e → e.cells[j]? = some y → y.isElt = true ∧ o + (k * sz + j) < row.size ∧ w.cell? (at_ b (o + (k * sz + j))) = some (row.getD (o + (k * sz + j)) undef) ∧ VR w g m y (row.getD (o + (k * sz + j)) undef) := by
      intro k e j y he hy
      obtain ⟨k1, k2, k3⟩ := hel k e he
      obtain ⟨m1, m2, z, m3, rfl⟩ := k3 j y hy
      have hlt : o + (k * sz + j) < row.size := by have := (List.getElem?_eq_some_iff.1 m3).1; omega
      have hgd : row.getD (o + (k * sz + j)) undef = row[o + (k * sz + j)] := by simp [hlt]
      obtain ⟨q1, q2, q3⟩ := r6 _ z row[o + (k * sz + j)] m3 (by simp [hlt])
      rw [hgd]
      refine ⟨m2, hlt, ?_, q2.shr0⟩
      rw [hb, cell_of_row r1]
      simp [hlt]
    refine ⟨some (at_ (g.nu i) o), c, ⟨fun c => if c = b then row.size else g.imm c, g.nu⟩, by rw [hln], ?_, fun k e j y ad u sz' ha hk hsz hj hu => ?_⟩
    · rw [← hln]
      refine .sl .shr l (some (at_ (g.nu i) o)) c sz (fun k j => row.getD (o + (k * sz + j)) undef) hz (by omega) (by omega) (fun ad h _ => by cases h; rfl) (by simp) (fun e he => ?_) (fun ad k e j y ha hk hj => ?_) (fun k e j y hk hj => ?_)
      · obtain ⟨k, hk⟩ := List.getElem?_of_mem he
        exact (hel k e hk).2.1
      · cases ha
        obtain ⟨q1, q2, q3, q4⟩ := cell k e j y hk hj
        exact ⟨q1, by simp [hb, q2], by rw [← hb]; exact q3⟩
      · exact (cell k e j y hk hj).2.2.2.mono hs (Nat.le_refl _)
    · cases ha
      obtain ⟨k1, k2, k3⟩ := hel k e hk
      rw [k2] at hsz
      subst hsz
      obtain ⟨q1, q2, q3, q4⟩ := cell k e j y hk hj
      rw [hb] at q3
      rw [q3] at hu
      obtain rfl := Option.some.inj hu
      exact q4
  | _ => simp [elS] at hl
end
end Go.T
