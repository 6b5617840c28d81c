/- A small deterministic machine over trees, for the functions of a loaded program: its values, its code, what it answers. Definitions alone. -/
import Derived.Calls
namespace Go.T

/-- What is known of a slice beyond its elements: nothing; or that it may be appended to (its capacity is its length, or its tail is ours; s: its block is ours): the cells of an element. -/
inductive Tag where
  | shr
  | own (sz : Nat) (s : Bool)
  deriving DecidableEq, Repr, Inhabited

/-- A value. 'ptr i o': into the box i at cell o · 'cp': to cells that never change · 'lp t o': into the box that slot t holds · 'lbox': a slot's own box · 'sl g l': a slice that never changes below its length · 'nils': a slice that is nil · 'asl i o n': n elements of box i from cell o on · 'junk': anything. -/
inductive TV where
  | bool (b : Bool)
  | int (k : IntKind) (n : Int)
  | str (s : ByteArray)
  | ptr (i o : Nat)
  | nilp
  | nils
  | cp (cs : List TV)
  | lp (t o : Nat)
  | lbox (cs : List TV)
  | sl (g : Tag) (l : List TV)
  | asl (ag : Bool) (sz i o n : Nat)
  | fn (f : Nat) (cap : List TV)
  | nilf
  | agg (cs : List TV)
  | tup (vs : List TV)
  | junk
  deriving Inhabited

abbrev Heap := List (List TV)

/-- Its cells in memory. -/
def TV.cells : TV → List TV
  | .agg cs => cs
  | v => [v]
/-- May it be one cell of memory? -/
def TV.isCell : TV → Bool
  | .bool _ | .int .. | .str _ | .ptr .. | .nilp | .nils | .cp _ | .sl .. | .asl .. | .fn .. | .nilf => true
  | _ => false
/-- May it be one cell of an element of a slice? -/
def TV.isElt : TV → Bool
  | .sl (.own ..) _ => false
  | .asl .. => false
  | v => v.isCell
/-- Does it, one cell, own nothing? -/
def TV.noOwn : TV → Bool
  | .sl (.own ..) _ => false
  | _ => true
def TV.shr0 : TV → TV
  | .sl _ l => .sl .shr l
  | .nils => .sl .shr []
  | v => v
/-- The same, but that a slice that is nil is still known to be. -/
def TV.shrK : TV → TV
  | .sl _ l => .sl .shr l
  | v => v
def TV.shrKA : TV → TV
  | .agg cs => .agg (cs.map TV.shrK)
  | .tup _ => .junk
  | v => v.shrK
def TV.shrA : TV → TV
  | .agg cs => .agg (cs.map TV.shr0)
  | v => v.shr0
/-- The same, owning nothing. -/
def TV.shrT : TV → TV
  | .tup vs => .tup (vs.map TV.shrA)
  | v => v.shrA
mutual
/-- Does it lead to no box from number n on? -/
def TV.lt (n : Nat) : TV → Bool
  | .ptr i _ => decide (i < n)
  | .asl _ _ i _ _ => decide (i < n)
  | .cp cs | .agg cs | .tup cs => TV.lts n cs
  | .sl _ l => TV.lts n l
  | .fn _ cs => TV.lts n cs
  | .lp .. | .lbox _ | .junk => false
  | _ => true
def TV.lts (n : Nat) : List TV → Bool
  | [] => true
  | v :: vs => TV.lt n v && TV.lts n vs
end
mutual
def TV.beq : TV → TV → Bool
  | .bool a, .bool b => a == b
  | .int k n, .int k' n' => decide (k = k') && decide (n = n')
  | .str a, .str b => decide (a = b)
  | .ptr i o, .ptr i' o' => decide (i = i') && decide (o = o')
  | .nilp, .nilp | .nilf, .nilf | .junk, .junk | .nils, .nils => true
  | .cp l, .cp l' | .lbox l, .lbox l' | .agg l, .agg l' | .tup l, .tup l' => TV.beqs l l'
  | .lp i o, .lp i' o' => decide (i = i') && decide (o = o')
  | .sl g l, .sl g' l' => decide (g = g') && TV.beqs l l'
  | .asl a s i o n, .asl a' s' i' o' n' => decide (a = a') && decide (s = s') && decide (i = i') && decide (o = o') && decide (n = n')
  | .fn f l, .fn f' l' => decide (f = f') && TV.beqs l l'
  | _, _ => false
def TV.beqs : List TV → List TV → Bool
  | [], [] => true
  | a :: l, b :: l' => TV.beq a b && TV.beqs l l'
  | _, _ => false
end
def Heap.beq : Heap → Heap → Bool
  | [], [] => true
  | a :: l, b :: l' => TV.beqs a b && Heap.beq l l'
  | _, _ => false

/-- An operand: a slot or a value that is written out. -/
inductive Src where
  | s (t : Nat)
  | c (v : TV)
  deriving Inhabited

inductive TOp where
  | mv (tk : Bool) (x : Src)
  | mvk (x : Src)
  | pick (c a b : Src)
  | lbx (tk : Bool) (x : Src)
  | lal (z : List TV)
  | hbx (tk : Bool) (x : Src)
  | hal (z : List TV)
  | build (z : List TV) (ps : List (Nat × Nat × Src))
  | bsl (ag : Bool) (sz n : Nat) (z : List TV) (ps : List (Nat × Src))
  | bsr (ag : Bool) (sz n : Nat) (z : List TV) (ps : List (Nat × Src))
  | ldl (tk : Bool) (ag : Bool) (n : Nat) (b : Nat) (p : Src)
  | ldh (tk : Bool) (ag : Bool) (n : Nat) (p : Src)
  | ldk (ag : Bool) (n : Nat) (p : Src)
  | ldr (ag : Bool) (n : Nat) (r p : Src)
  | ldc (ag : Bool) (n : Nat) (p : Src)
  | stl (tk : Bool) (n : Nat) (b : Nat) (p x : Src)
  | sth (tk : Bool) (n : Nat) (p x : Src)
  | nilc (x : Src)
  | ar (op : BinOp) (x y : Src)
  | eqb (neg : Bool) (x y : Src)
  | eqp (neg : Bool) (x y : Src)
  | eqs (neg : Bool) (fs : List (Nat × Nat)) (x y : Src)
  | not (x : Src)
  | neg (x : Src)
  | cvi (k : IntKind) (x : Src)
  | cvt (x : Src)
  | cvs (x : Src)
  | cvb (x : Src)
  | cvx (x : Src)
  | mkf (f : Nat) (cs : List Src)
  | mks (ag : Bool) (sz bytes : Nat) (z : List TV) (l c : Src)
  | slc (sz : Nat) (x : Src) (lo hi mx : Option Src)
  | slx (sz : Nat) (x : Src) (lo hi : Option Src)
  | sls (x : Src) (lo hi : Option Src)
  | fa (off : Nat) (x : Src)
  | fld (ag : Bool) (n off : Nat) (x : Src)
  | ia (sz : Nat) (x i : Src)
  | sx (x i : Src)
  | ext (tk : Bool) (i : Nat) (x : Src)
  | call (pu : Nat) (f : Nat) (as : List (Bool × Src))
  | callv (pu : Nat) (x : Src) (as : List (Bool × Src))
  | calk (ks : List Src) (x : Src) (as : List (Bool × Src))
  | len (str : Bool) (x : Src)
  | app (tk : Bool) (sz bytes : Nat) (x y : Src)
  | apr (ag : Bool) (sz bytes : Nat) (x y : Src)
  | clr (z : List TV) (x : Src)
  | cpy (sz : Nat) (x y : Src)
  | mn (x y : Src)
  | mx (x y : Src)
  deriving Inhabited

structure TOper where
  d : Option Nat
  op : TOp
  g : Option (Nat × Bool)
  deriving Inhabited

inductive TC where
  | skip
  | reg (ops : List TOper) (kill : List Nat)
  | seq (a b : TC)
  | cond (c : Src) (a b : TC)
  | block (id : Nat) (body : TC)
  | loop (body : TC)
  | exit (id : Nat)
  | ret
  deriving Inhabited

inductive TRes where
  | tmp (t : Nat)
  | cell (t : Nat) (ag : Bool) (n : Nat)
  deriving Inhabited

structure TF where
  ntmps : Nat
  res : List TRes
  body : TC
  fz : Bool := true
  deriving Inhabited

/-- A frame's state: its slots, the boxes, how many boxes there were at its beginning, does an older box lead to a younger one? -/
structure St where
  t : List TV
  h : Heap
  base : Nat
  keep : Bool

structure Ret where
  r : TV
  h : Heap
  kp : Bool

abbrev CallF := Nat → List TV → Heap → Option Ret

/-- What an operation does: its value; the slots whose tags it takes; a slot's box that it writes; the boxes; are the pointers into the box of its own slot stale? -/
structure Dl where
  v : TV
  tk : List Nat := []
  bw : Option (Nat × TV) := none
  hw : Option (Heap × Bool) := none
  jl : Bool := false

section
variable (t : List TV)
def sl (i : Nat) : TV := t.getD i .junk
/-- An operand's value, owning nothing; none: a box of this frame. -/
def ev : Src → Option TV
  | .s i => match sl t i with
    | .lbox _ | .lp .. => none
    | v => some v.shrT
  | .c v => some v.shrT
/-- An operand's value; taken with what it owns. -/
def tak (tk : Bool) : Src → Option (TV × List Nat)
  | .s i => match sl t i with
    | .lbox _ | .lp .. => none
    | v => if tk then some (v, [i]) else some (v.shrT, [])
  | .c v => if tk then some (v, []) else some (v.shrT, [])
/-- An operand as an address. -/
def ad : Src → TV
  | .s i => match sl t i with
    | .lbox _ => .lp i 0
    | v => v
  | .c v => v
def evs : List Src → Option (List TV)
  | [] => some []
  | x :: xs => match ev t x, evs xs with
    | some v, some vs => some (v :: vs)
    | _, _ => none
def taks : List (Bool × Src) → Option (List TV × List Nat)
  | [] => some ([], [])
  | (b, x) :: xs => match tak t b x, taks xs with
    | some (v, i), some (vs, is) => if i.any (fun j => is.contains j) then none else some (v :: vs, i ++ is)
    | _, _ => none
end
/-- n cells from cell o on. -/
def cut (cs : List TV) (o n : Nat) : Option (List TV) := if o + n ≤ cs.length then some ((cs.drop o).take n) else none
/-- The cells from cell o on, other ones. -/
def splice (cs : List TV) (o : Nat) (vs : List TV) : List TV := cs.take o ++ (vs ++ cs.drop (o + vs.length))
def pack (ag : Bool) (cs : List TV) : TV := if ag then .agg cs else cs.headD .junk
/-- A box that nobody may look into any more. -/
def dead (cs : List TV) : Bool := match cs with
  | [.tup []] => true
  | _ => false
def live (h : Heap) (i : Nat) : Option (List TV) := match h[i]? with
  | some cs => if dead cs then none else some cs
  | none => none
def getH (h : Heap) (p : TV) (n : Nat) : Option (List TV) :=
  match p with
  | .ptr i o => match live h i with
    | some cs => cut cs o n
    | none => none
  | .cp cs => cut cs 0 n
  | _ => none
def intOf : TV → Option Int
  | .int _ n => some n
  | _ => none
/-- Parts laid over cells: at which cell, how many, what. -/
def fillP (t : List TV) : List (Nat × Nat × Src) → List TV → Option (List TV)
  | [], cs => some cs
  | (o, n, x) :: ps, cs => match ev t x with
    | some v => if v.cells.length = n ∧ o + n ≤ cs.length ∧ v.cells.all TV.isCell then fillP t ps (splice cs o v.cells) else none
    | none => none
/-- Elements: each of the right form. -/
def okE (ag : Bool) (sz : Nat) (v : TV) : Bool := (match v with | .agg cs => ag && decide (cs.length = sz) && cs.all TV.isElt | v => !ag && decide (sz = 1) && v.isElt)
def fillE (t : List TV) (ag : Bool) (sz : Nat) : List (Nat × Src) → List TV → Option (List TV)
  | [], es => some es
  | (i, x) :: ps, es => match ev t x with
    | some v => if i < es.length ∧ okE ag sz v then fillE t ag sz ps (es.set i v) else none
    | none => none
/-- What is shared of a slice's elements as cells, and back. -/
def flat (l : List TV) : List TV := l.flatMap TV.cells
def regroup (ag : Bool) (sz : Nat) : Nat → List TV → List TV
  | 0, _ => []
  | n + 1, cs => pack ag (cs.take sz) :: regroup ag sz n (cs.drop sz)
/-- The elements of a slice. -/
def elS (h : Heap) : TV → Option (List TV)
  | .sl _ l => some l
  | .nils => some []
  | .asl ag sz i o n => match live h i with
    | some cs => match cut cs o (n * sz) with
      | some vs => if (vs.map TV.shr0).all TV.isElt && decide (0 < sz) && (ag || decide (sz = 1)) then some (regroup ag sz n (vs.map TV.shr0)) else none
      | none => none
    | none => none
  | _ => none
def byteOf : TV → UInt8
  | .int _ n => UInt8.ofNat n.toNat
  | _ => 0
def isByte : TV → Bool
  | .int .u8 _ => true
  | _ => false
def ofBytes (s : ByteArray) : List TV := s.data.toList.map fun b => .int .u8 b.toNat
def arith (op : BinOp) (x y : TV) : Option TV :=
  match op, x, y with
  | .shl, .int k a, .int _ b => if b < 0 then none else some (.int k (k.wrap (a * 2 ^ (min b.toNat k.bits))))
  | .shr, .int k a, .int _ b => if b < 0 then none else some (.int k (a.fdiv (2 ^ (min b.toNat k.bits))))
  | .add, .int k a, .int k' b => if k = k' then some (.int k (k.wrap (a + b))) else none
  | .sub, .int k a, .int k' b => if k = k' then some (.int k (k.wrap (a - b))) else none
  | .mul, .int k a, .int k' b => if k = k' then some (.int k (k.wrap (a * b))) else none
  | .quo, .int k a, .int k' b => if k = k' ∧ b ≠ 0 then some (.int k (k.wrap (a.tdiv b))) else none
  | .rem, .int k a, .int k' b => if k = k' ∧ b ≠ 0 then some (.int k (a.tmod b)) else none
  | .and, .int k a, .int k' b => if k = k' then some (.int k (k.wrap (BitVec.ofInt k.bits a &&& BitVec.ofInt k.bits b).toNat)) else none
  | .or, .int k a, .int k' b => if k = k' then some (.int k (k.wrap (BitVec.ofInt k.bits a ||| BitVec.ofInt k.bits b).toNat)) else none
  | .xor, .int k a, .int k' b => if k = k' then some (.int k (k.wrap (BitVec.ofInt k.bits a ^^^ BitVec.ofInt k.bits b).toNat)) else none
  | .andNot, .int k a, .int k' b => if k = k' then some (.int k (k.wrap (BitVec.ofInt k.bits a &&& ~~~BitVec.ofInt k.bits b).toNat)) else none
  | .eql, .int k a, .int k' b => if k = k' then some (.bool (a == b)) else none
  | .neq, .int k a, .int k' b => if k = k' then some (.bool (a != b)) else none
  | .lss, .int k a, .int k' b => if k = k' then some (.bool (decide (a < b))) else none
  | .leq, .int k a, .int k' b => if k = k' then some (.bool (decide (a ≤ b))) else none
  | .gtr, .int k a, .int k' b => if k = k' then some (.bool (decide (a > b))) else none
  | .geq, .int k a, .int k' b => if k = k' then some (.bool (decide (a ≥ b))) else none
  | .add, .str a, .str b => if ((a.size + b.size : Nat) : Int) > IntKind.i64.max then none else some (.str (a ++ b))
  | .eql, .str a, .str b => some (.bool (decide (a = b)))
  | .neq, .str a, .str b => some (.bool !(decide (a = b)))
  | .lss, .str a, .str b => some (.bool (Op.bytesLess a.toList b.toList))
  | .leq, .str a, .str b => some (.bool (Op.bytesLess a.toList b.toList || decide (a = b)))
  | .gtr, .str a, .str b => some (.bool !(Op.bytesLess a.toList b.toList || decide (a = b)))
  | .geq, .str a, .str b => some (.bool !(Op.bytesLess a.toList b.toList))
  | _, _, _ => none
def eqCell : Nat → TV → TV → Option Bool
  | 0, .int k a, .int k' b => if k = k' then some (a == b) else none
  | 1, .bool a, .bool b => some (a == b)
  | 2, .str a, .str b => some (decide (a = b))
  | _, _, _ => none
def eqCells (xs ys : List TV) : List (Nat × Nat) → Option Bool
  | [] => some true
  | (o, k) :: os => match xs[o]?, ys[o]? with
    | some x, some y => match eqCell k x y with
      | some true => eqCells xs ys os
      | some false => some false
      | none => none
    | _, _ => none
/-- A bound of x[lo:hi:mx]. -/
def bound (t : List TV) (x : Option Src) (dflt most : Nat) : Option Nat :=
  match x with
  | none => some dflt
  | some x => match ev t x with
    | some (.int _ n) => if 0 ≤ n ∧ n ≤ (most : Int) then some n.toNat else none
    | _ => none
/-- Would the new cells of box i make an older box lead to a younger one? -/
def keeps (st : St) (i : Nat) (vs : List TV) : Bool := st.keep || !(TV.lts (i + 1) vs)
/-- Each element has so many cells. -/
def okW (sz : Nat) (l : List TV) : Bool := l.all fun e => e.cells.length == sz
def zeros (ag : Bool) (z : List TV) (n : Nat) : List TV := List.replicate n (pack ag z)
def roomB : Nat := 140737488355328
def argOk (v : TV) : Bool := match v with | .agg cs => cs.all TV.isCell | v => v.isCell
/-- A row that was made since there were 'base' boxes, as a slice that never changes again. -/
def frzC (h : Heap) (base : Nat) : TV → TV
  | .asl ag sz i o n => match live h i with
    | some cs => if o = 0 ∧ base ≤ i ∧ n * sz ≤ cs.length ∧ ((cs.take (n * sz)).map TV.shr0).all TV.isElt ∧ 0 < sz ∧ (ag = true ∨ sz = 1) then .sl (.own sz false) (regroup ag sz n (cs.map TV.shr0)) else .asl ag sz i o n
    | none => .asl ag sz i o n
  | v => v
def frzA (h : Heap) (base : Nat) : TV → TV
  | .agg cs => .agg (cs.map (frzC h base))
  | v => frzC h base v
def frzT (h : Heap) (base : Nat) : TV → TV
  | .tup vs => .tup (vs.map (frzA h base))
  | v => frzA h base v
/-- The boxes from 'base' on of which a value holds rows. -/
def rowC (base : Nat) : TV → List Nat
  | .asl _ _ i _ _ => if base ≤ i then [i] else []
  | _ => []
def rowA (base : Nat) : TV → List Nat
  | .agg cs => cs.flatMap (rowC base)
  | v => rowC base v
def rowT (base : Nat) : TV → List Nat
  | .tup vs => vs.flatMap (rowA base)
  | v => rowA base v
/-- An answer without the boxes that were made since, where nothing leads to them. -/
def trim (fz : Bool) (base : Nat) (r : Ret) : Ret :=
  if r.h.length = base then r
  else if r.kp then r
  else
    let u := if fz && decide ((rowT base r.r).length ≤ 1) then frzT r.h base r.r else r.r
    if TV.lt base u then ⟨u, r.h.take base, false⟩ else r
/-- A call and what becomes of it. 0: it may write the boxes; 1: it leaves them as they are; 2: it doesn't look at them; 3: its new rows are frozen; 4: they are, and it leaves the boxes as they are; 5: they are, and it doesn't look at the boxes. -/
def callD (call : CallF) (pu : Nat) (st : St) (tk : List Nat) (f : Nat) (vs : List TV) : Option Dl :=
  if vs.all argOk then
    match pu with
    | 0 => match call f vs st.h with
      | some r => some { v := r.r, tk := tk, hw := some (r.h, st.keep || r.kp) }
      | none => none
    | 1 => match call f vs st.h with
      | some r => if Heap.beq r.h st.h then some { v := r.r, tk := tk } else none
      | none => none
    | 3 => match call f vs st.h with
      | some r => some { v := (trim true st.h.length r).r, tk := tk, hw := some ((trim true st.h.length r).h, st.keep || (trim true st.h.length r).kp) }
      | none => none
    | 4 => match call f vs st.h with
      | some r => if Heap.beq (trim true st.h.length r).h st.h then some { v := (trim true st.h.length r).r, tk := tk } else none
      | none => none
    | 5 => if TV.lts 0 vs then match call f vs [] with
      | some r => if (trim true 0 r).h.length = 0 then some { v := (trim true 0 r).r, tk := tk } else none
      | none => none
      else none
    | _ => if TV.lts 0 vs then match call f vs [] with
      | some ⟨v, [], _⟩ => some { v := v, tk := tk }
      | _ => none
      else none
  else none

/-- Are the boxes to which these operands point as they were? -/
def keptB (t : List TV) (h h' : Heap) : List Src → Bool
  | [] => true
  | p :: ps => (match ad t p with
    | .ptr i _ => decide (i < h.length) && decide (i < h'.length) && TV.beqs (h'.getD i []) (h.getD i [])
    | .cp _ => true
    | _ => false) && keptB t h h' ps
/-- What is appended, or copied: a slice's elements, a text's bytes. -/
def srcS (h : Heap) (sz : Nat) : Option TV → Option (List TV)
  | some (.str s) => if sz = 1 then some (ofBytes s) else none
  | some v => elS h v
  | none => none
/-- What an operation does in a state. -/
def delta (call : CallF) (st : St) : TOp → Option Dl
  | .mv tk x => match tak st.t tk x with
    | some (v, i) => some { v := v, tk := i }
    | none => none
  | .mvk x => match tak st.t true x with
    | some (v, _) => some { v := v.shrKA }
    | none => none
  | .pick c a b => match ev st.t c, ev st.t a, ev st.t b with
    | some (.bool c), some a, some b => some { v := if c then a else b }
    | _, _, _ => none
  | .lbx tk x => match tak st.t tk x with
    | some (v, i) => if argOk v then some { v := .lbox v.cells, tk := i, jl := true } else none
    | none => none
  | .lal z => some { v := .lbox z, jl := true }
  | .hbx tk x => match tak st.t tk x with
    | some (v, i) => if argOk v then some { v := .ptr st.h.length 0, tk := i, hw := some (st.h ++ [v.cells], st.keep) } else none
    | none => none
  | .hal z => some { v := .ptr st.h.length 0, hw := some (st.h ++ [z], st.keep) }
  | .build z ps => match fillP st.t ps z with
    | some cs => some { v := .agg cs }
    | none => none
  | .bsl ag sz n z ps => match fillE st.t ag sz ps (zeros ag z n) with
    | some es => some { v := .sl (.own sz true) es }
    | none => none
  | .bsr ag sz n z ps => match fillE st.t ag sz ps (zeros ag z n) with
    | some es => some { v := .asl ag sz st.h.length 0 n, hw := some (st.h ++ [flat es], st.keep) }
    | none => none
  | .ldl tk ag n b p => match ad st.t p with
    | .lp b' o => if b' = b then match sl st.t b with
      | .lbox cs => match cut cs o n with
        | some vs => if tk then some { v := pack ag vs, bw := some (b, .lbox (splice cs o (vs.map TV.shr0))) } else some { v := pack ag (vs.map TV.shr0) }
        | none => none
      | _ => none
      else none
    | _ => none
  | .ldh tk ag n p => match getH st.h (ad st.t p) n with
    | some vs => if tk then match ad st.t p with
        | .ptr i o => some { v := pack ag vs, hw := some (st.h.set i (splice (st.h.getD i []) o (vs.map TV.shr0)), st.keep) }
        | _ => none
      else some { v := pack ag (vs.map TV.shr0) }
    | none => none
  | .ldk ag n p => match getH st.h (ad st.t p) n with
    | some vs => some { v := pack ag (vs.map TV.shrK) }
    | none => none
  | .ldr ag n r p => match ad st.t r, ad st.t p with
    | .ptr i _, .ptr j _ => if i = j then match getH st.h (ad st.t p) n with
      | some vs => some { v := pack ag (vs.map TV.shrK) }
      | none => none
      else none
    | _, _ => none
  | .ldc ag n p => match ad st.t p with
    | .cp cs => match cut cs 0 n with
      | some vs => some { v := pack ag (vs.map TV.shr0) }
      | none => none
    | _ => none
  | .stl tk n b p x => match ad st.t p, tak st.t tk x with
    | .lp b' o, some (v, i) => if b' = b ∧ v.cells.length = n ∧ argOk v then match sl st.t b with
      | .lbox cs => if o + n ≤ cs.length then some { v := .tup [], tk := i, bw := some (b, .lbox (splice cs o v.cells)) } else none
      | _ => none
      else none
    | _, _ => none
  | .sth tk n p x => match ad st.t p, tak st.t tk x with
    | .ptr i o, some (v, j) => if v.cells.length = n ∧ argOk v then match live st.h i with
      | some cs => if o + n ≤ cs.length then some { v := .tup [], tk := j, hw := some (st.h.set i (splice cs o v.cells), keeps st i v.cells) } else none
      | none => none
      else none
    | _, _ => none
  | .nilc x => match ad st.t x with
    | .ptr i o => some { v := .ptr i o }
    | .cp cs => some { v := .cp cs }
    | .lp b o => match sl st.t b with
      | .lbox _ => some { v := .lp b o }
      | _ => none
    | .fn f cs => some { v := .fn f cs }
    | _ => none
  | .ar op x y => match ev st.t x, ev st.t y with
    | some a, some b => match arith op a b with
      | some v => some { v := v }
      | none => none
    | _, _ => none
  | .eqb neg x y => match ev st.t x, ev st.t y with
    | some (.bool a), some (.bool b) => some { v := .bool (if neg then !(a == b) else a == b) }
    | _, _ => none
  | .eqp neg x y => match ev st.t x, ev st.t y with
    | some .nilp, some .nilp => some { v := .bool (if neg then false else true) }
    | some .nilp, some (.ptr ..) | some (.ptr ..), some .nilp | some .nilp, some (.cp _) | some (.cp _), some .nilp => some { v := .bool (if neg then true else false) }
    | _, _ => none
  | .eqs neg fs x y => match ev st.t x, ev st.t y with
    | some (.agg a), some (.agg b) => match eqCells a b fs with
      | some r => some { v := .bool (if neg then !r else r) }
      | none => none
    | _, _ => none
  | .not x => match ev st.t x with
    | some (.bool b) => some { v := .bool !b }
    | _ => none
  | .neg x => match ev st.t x with
    | some (.int k n) => some { v := .int k (k.wrap (0 - n)) }
    | _ => none
  | .cvi k x => match ev st.t x with
    | some (.int _ n) => some { v := .int k (k.wrap n) }
    | _ => none
  | .cvt x => match ev st.t x with
    | some (.str s) => some { v := .str s }
    | _ => none
  | .cvs x => match ev st.t x with
    | some v => match elS st.h v with
      | some l => if l.all isByte then some { v := .str ⟨(l.map byteOf).toArray⟩ } else none
      | none => none
    | none => none
  | .cvb x => match ev st.t x with
    | some (.str s) => if s.size ≤ roomB then some { v := .sl (.own 1 false) (ofBytes s) } else none
    | _ => none
  | .cvx x => match tak st.t true x with
    | some (.sl (.own n true) l, i) => some { v := .sl (.own n true) l, tk := i }
    | _ => none
  | .mkf f cs => match evs st.t cs with
    | some vs => if vs.all (fun v => v.isCell && v.noOwn) then some { v := .fn f vs } else none
    | none => none
  | .mks ag sz bytes z l c => match ev st.t l, ev st.t c with
    | some (.int _ l), some (.int _ c) => if 0 ≤ l ∧ l ≤ c ∧ c.toNat * bytes ≤ roomB ∧ c ≤ 9223372036854775807 then
        some { v := .asl ag sz st.h.length 0 l.toNat, hw := some (st.h ++ [flat (zeros ag z c.toNat)], st.keep) } else none
    | _, _ => none
  | .slc sz x lo hi mx => match ev st.t x with
    | some (.sl _ l) => if okW sz l = true then match bound st.t mx l.length l.length with
      | some m => match bound st.t hi l.length m with
        | some h => match bound st.t lo 0 h with
          | some a => some { v := .sl (if mx.isSome = true ∧ m = h then .own sz false else .shr) ((l.take h).drop a) }
          | none => none
        | none => none
      | none => none
      else none
    | some (.asl ag s i o n) => if s = sz then match bound st.t mx n n with
      | some m => match bound st.t hi n m with
        | some h => match bound st.t lo 0 h with
          | some a => if mx.isSome then some { v := .junk } else if h - a = 0 ∧ a ≠ 0 then some { v := .sl .shr [] } else some { v := .asl ag s i (o + a * s) (h - a) }
          | none => none
        | none => none
      | none => none
      else none
    | _ => none
  | .slx sz x lo hi => match ev st.t x with
    | some (.asl ag s i o n) => match live st.h i with
      | some cs => if s = sz ∧ o ≤ cs.length ∧ 0 < s ∧ n ≤ (cs.length - o) / s then match bound st.t hi n ((cs.length - o) / s) with
        | some h => match bound st.t lo 0 h with
          | some a => if h - a = 0 ∧ a ≠ 0 then some { v := .sl .shr [] } else if h ≤ roomB then some { v := .asl ag s i (o + a * s) (h - a) } else none
          | none => none
        | none => none
        else none
      | none => none
    | some (.sl _ []) => match bound st.t hi 0 0 with
      | some _ => match bound st.t lo 0 0 with
        | some _ => some { v := .sl .shr [] }
        | none => none
      | none => none
    | _ => none
  | .sls x lo hi => match ev st.t x with
    | some (.str s) => match bound st.t hi s.size s.size with
      | some h => match bound st.t lo 0 h with
        | some a => some { v := .str (s.extract a h) }
        | none => none
      | none => none
    | _ => none
  | .fa off x => match ad st.t x with
    | .ptr i o => some { v := .ptr i (o + off) }
    | .cp cs => some { v := .cp (cs.drop off) }
    | .lp b o => match sl st.t b with
      | .lbox _ => some { v := .lp b (o + off) }
      | _ => none
    | _ => none
  | .fld ag n off x => match ev st.t x with
    | some (.agg cs) => match cut cs off n with
      | some vs => some { v := pack ag vs }
      | none => none
    | _ => none
  | .ia sz x i => match ev st.t x, ev st.t i with
    | some (.sl _ l), some (.int _ n) => if 0 ≤ n then match l[n.toNat]? with
        | some e => if e.cells.length = sz then some { v := .cp e.cells } else none
        | none => none
      else none
    | some (.asl _ s b o m), some (.int _ n) => if 0 ≤ n ∧ n < (m : Int) ∧ s = sz then some { v := .ptr b (o + n.toNat * sz) } else none
    | _, _ => none
  | .sx x i => match ev st.t x, ev st.t i with
    | some (.str s), some (.int _ n) => if 0 ≤ n then match s.data[n.toNat]? with
        | some b => some { v := .int .u8 b.toNat }
        | none => none
      else none
    | _, _ => none
  | .ext tk i x => match x with
    | .s j => match sl st.t j with
      | .tup vs => match vs[i]? with
        | some v => if tk then some { v := v, bw := some (j, .tup (vs.set i v.shrA)) } else some { v := v.shrA }
        | none => none
      | _ => none
    | _ => none
  | .call pu f as => match taks st.t as with
    | some (vs, tk) => callD call pu st tk f vs
    | none => none
  | .callv pu x as => match ev st.t x, taks st.t as with
    | some (.fn f cs), some (vs, tk) => callD call pu st tk f (vs ++ cs)
    | _, _ => none
  | .calk ks x as => match ev st.t x, taks st.t as with
    | some (.fn f cs), some (vs, tk) => match callD call 0 st tk f (vs ++ cs) with
      | some d => if keptB st.t st.h (match d.hw with | some (h, _) => h | none => st.h) ks then some d else none
      | none => none
    | _, _ => none
  | .len b x => match ev st.t x with
    | some (.str s) => if b then some { v := .int .i64 s.size } else none
    | some (.sl _ l) => if b then none else some { v := .int .i64 l.length }
    | some (.asl _ _ _ _ n) => if b then none else some { v := .int .i64 n }
    | _ => none
  | .app tk sz bytes x y => match tak st.t tk x, srcS st.h sz (ev st.t y) with
    | some (.sl (.own n _) l, i), some l2 => if n = sz ∧ okW sz l2 = true ∧ okW sz l = true ∧ (l.length + l2.length) * bytes ≤ roomB ∧ l.length + l2.length ≤ roomB then
        some { v := .sl (.own sz false) (l ++ l2), tk := i } else none
    | some (.nils, i), some l2 => if okW sz l2 = true ∧ l2.length * bytes ≤ roomB ∧ l2.length ≤ roomB then
        some { v := .sl (.own sz false) l2, tk := i } else none
    | _, _ => none
  | .apr ag sz bytes x y => match tak st.t true x, srcS st.h sz (ev st.t y) with
    | some (.nils, i), some l2 => if okW sz l2 = true ∧ l2.length * bytes ≤ roomB ∧ l2.length ≤ roomB then
        (if l2.length = 0 then some { v := .nils, tk := i } else some { v := .asl ag sz st.h.length 0 l2.length, tk := i, hw := some (st.h ++ [flat l2], st.keep) }) else none
    | some (.asl _ s b o n, i), some l2 => match live st.h b with
      | some cs => if s = sz ∧ o = 0 ∧ n * sz ≤ cs.length ∧ okW sz l2 = true ∧ (n + l2.length) * bytes ≤ roomB ∧ n + l2.length ≤ roomB then
        (if l2.length = 0 then some { v := .asl ag sz b o n, tk := i }
         else if (n + l2.length) * sz ≤ cs.length then some { v := .asl ag sz b 0 (n + l2.length), tk := i, hw := some (st.h.set b (splice cs (n * sz) (flat l2)), keeps st b l2) }
         else some { v := .asl ag sz st.h.length 0 (n + l2.length), tk := i, hw := some (st.h.set b [.tup []] ++ [(cs.take (n * sz)).map TV.shr0 ++ flat l2], st.keep) }) else none
      | none => none
    | _, _ => none
  | .clr z x => match ev st.t x with
    | some (.sl _ []) => some { v := .tup [] }
    | some (.asl _ s i o n) => match live st.h i with
      | some cs => if s = z.length ∧ o + n * s ≤ cs.length ∧ TV.lts 0 z then some { v := .tup [], hw := some (st.h.set i (splice cs o (flat (List.replicate n (.agg z)))), st.keep) } else none
      | none => none
    | _ => none
  | .cpy sz x y => match ev st.t x, (ev st.t y).bind (elS st.h) with
    | some (.asl _ s i o n), some l => match live st.h i with
      | some cs => if s = sz ∧ o + n * s ≤ cs.length ∧ okW sz l = true then
        some { v := .int .i64 (min l.length n : Nat), hw := some (st.h.set i (splice cs o (flat (l.take n))), keeps st i l) } else none
      | none => none
    | _, _ => none
  | .mn x y => match ev st.t x, ev st.t y with
    | some (.int k a), some (.int _ b) => some { v := .int k (if b < a then b else a) }
    | _, _ => none
  | .mx x y => match ev st.t x, ev st.t y with
    | some (.int k a), some (.int _ b) => some { v := .int k (if b > a then b else a) }
    | _, _ => none

def isLp (b : Nat) : TV → Bool
  | .lp b' _ => b' == b
  | _ => false
/-- The slots behind an operation. -/
def Dl.slots (d : Dl) (dst : Option Nat) (t : List TV) : List TV :=
  let t := d.tk.foldl (fun t i => t.set i (sl t i).shrT) t
  let t := match d.bw with
    | some (b, u) => t.set b u
    | none => t
  match dst with
  | some i => (if d.jl then t.map (fun v => if isLp i v then .junk else v) else t).set i d.v
  | none => t
def Dl.ap (d : Dl) (dst : Option Nat) (st : St) : St :=
  { st with t := d.slots dst st.t, h := (match d.hw with | some (h, _) => h | none => st.h), keep := (match d.hw with | some (_, k) => k | none => st.keep) }
/-- Is an operation with a guard carried out? -/
def wanted (t : List TV) : Option (Nat × Bool) → Option Bool
  | none => some true
  | some (g, want) => match sl t g with
    | .bool b => some (b == want)
    | .tup [] => some false
    | _ => none
/-- What an operation does, with its guard. -/
def dlt (call : CallF) (o : TOper) (st : St) : Option Dl :=
  match wanted st.t o.g with
  | some true => delta call st o.op
  | some false => some { v := .tup [] }
  | none => none
def isLb : TV → Bool
  | .lbox _ => true
  | _ => false
/-- May the slot be written? A slot's own box gives way to another box alone. -/
def okD (t : List TV) (dst : Option Nat) (d : Dl) : Bool := match dst with
  | some i => d.jl || (!isLb (sl t i) && !isLb d.v)
  | none => true
def step (call : CallF) (o : TOper) (st : St) : Option St :=
  match dlt call o st with
  | some d => if okD st.t o.d d then some (d.ap o.d st) else none
  | none => none
def steps (call : CallF) : List TOper → St → Option St
  | [], st => some st
  | o :: os, st => match step call o st with
    | some st' => steps call os st'
    | none => none
def St.kill (st : St) (ks : List Nat) : St := { st with t := ks.foldl (fun t i => t.set i .junk) st.t }

inductive Ex where
  | norm | ret | ex (id : Nat)
  deriving DecidableEq, Inhabited
def loopN (f : St → Option (Ex × St)) : Nat → St → Option (Ex × St)
  | 0, _ => none
  | k + 1, st => match f st with
    | some (.norm, st') => loopN f k st'
    | r => r
def exec (call : CallF) (k : Nat) : TC → St → Option (Ex × St)
  | .skip, st => some (.norm, st)
  | .reg ops kill, st => match steps call ops st with
    | some st' => some (.norm, st'.kill kill)
    | none => none
  | .seq a b, st => match exec call k a st with
    | some (.norm, st') => exec call k b st'
    | r => r
  | .cond c a b, st => match ev st.t c with
    | some (.bool true) => exec call k a st
    | some (.bool false) => exec call k b st
    | _ => none
  | .block id body, st => match exec call k body st with
    | some (.ex id', st') => if id' = id then some (.norm, st') else some (.ex id', st')
    | r => r
  | .loop body, st => loopN (exec call k body) k st
  | .exit id, st => some (.ex id, st)
  | .ret, st => some (.ret, st)

def resOf (st : St) : TRes → Option TV
  | .tmp i => match sl st.t i with
    | .lbox _ | .lp .. => none
    | v => if argOk v then some v else none
  | .cell i ag n => match sl st.t i with
    | .lbox cs => match cut cs 0 n with
      | some vs => some (pack ag vs)
      | none => none
    | .ptr b o => match getH st.h (.ptr b o) n with
      | some vs => some (pack ag (vs.map TV.shr0))
      | none => none
    | _ => none
def ress (st : St) : List TRes → Option (List TV)
  | [] => some []
  | r :: rs => match resOf st r, ress st rs with
    | some v, some vs => some (v :: vs)
    | _, _ => none
def one (vs : List TV) : TV := match vs with | [v] => v | vs => .tup vs
def slotsDistinct : List TRes → List Nat → Bool
  | [], _ => true
  | .tmp i :: rs, seen => !seen.contains i && slotsDistinct rs (i :: seen)
  | .cell i _ _ :: rs, seen => !seen.contains i && slotsDistinct rs (i :: seen)
def finish (fz : Bool) (rs : List TRes) (st : St) : Option Ret :=
  match ress st rs with
  | none => none
  | some vs => some (trim fz st.base ⟨one vs, st.h, st.keep⟩)

/-- A call, to the depth n. 'tab': the functions' codes; 'ext': functions whose answers a proof by hand gives. -/
def callN (tab : Nat → Option TF) (ext : Nat → Option CallF) : Nat → CallF
  | 0, _, _, _ => none
  | n + 1, f, as, h => match ext f with
    | some c => c f as h
    | none => match tab f with
      | none => none
      | some tf => match exec (callN tab ext n) n tf.body ⟨as ++ List.replicate (tf.ntmps - as.length) (.tup []), h, h.length, false⟩ with
        | some (.ex _, _) => none
        | some (_, st) => finish tf.fz tf.res st
        | none => none
end Go.T
