/- Does a code of the small machine tell a function of a loaded program? A function that the kernel runs. -/
import Derived.Test.YtlcnhdbedgpbiaaOTDefs
namespace Go.T

def cval : Value → TV → Bool
  | .bool a, .bool b => a == b
  | .int k n, .int k' n' => decide (k = k') && decide (n = n')
  | .string s, .str s' => decide (s = s')
  | .pointer none, .nilp => true
  | .slice none 0 0, .nils => true
  | .slice none 0 0, .sl .shr [] => true
  | .slice none 0 0, .sl (.own n false) [] => decide (0 < n)
  | .nilFunc, .nilf => true
  | .func (.func f) a b, .fn f' [] => decide (f = f') && decide (a.size = 0) && decide (b.size = 0)
  | _, _ => false
def cvals : List Value → List TV → Bool
  | [], [] => true
  | v :: vs, x :: xs => cval v x && cvals vs xs
  | _, _ => false
def cvalA : Value → TV → Bool
  | .agg cs, .agg xs => cvals cs.toList xs
  | v, x => cval v x
def chkS : Operand → Src → Bool
  | .tmp t, .s t' => t == t'
  | .const v, .c x => cvalA v x
  | .func f, .c (.fn f' []) => f == f'
  | _, _ => false
def chkSs : List Operand → List Src → Bool
  | [], [] => true
  | o :: os, x :: xs => chkS o x && chkSs os xs
  | _, _ => false
def chkSO : Option Operand → Option Src → Bool
  | none, none => true
  | some o, some x => chkS o x
  | _, _ => false
def chkPs : List (Nat × Operand) → List (Nat × Src) → Bool
  | [], [] => true
  | (i, o) :: os, (j, x) :: xs => i == j && chkS o x && chkPs os xs
  | _, _ => false
section
variable (P : Program)
def szOf (t : TypeId) : Option Nat := (P.info? t).map (·.size)
def byOf (t : TypeId) : Option Nat := (P.info? t).map (·.bytes)
def zeOf (t : TypeId) : Option Value := (P.info? t).bind (·.zero)
def aggB (t : TypeId) : Option Bool := match P.underlying t with
  | some (.struct _) | some (.array _ _) => true
  | some _ => false
  | none => none
def fieldsOf (t : TypeId) : Option (Array Field) := match P.underlying t with
  | some (.struct fs) => some fs
  | _ => none
def elemOf? (t : TypeId) : Option TypeId := match P.underlying t with
  | some (.slice e) => some e
  | _ => none
def isStrT (t : TypeId) : Bool := match P.underlying t with
  | some .string => true
  | _ => false
def isU8 (t : TypeId) : Bool := match P.underlying t with
  | some (.int .u8) => true
  | _ => false
def isIntT (t : TypeId) : Bool := match P.underlying t with
  | some (.int _) => true
  | _ => false
/-- How a variable of a type lies in cells. -/
def lay (t : TypeId) (ag : Bool) (n : Nat) : Bool := decide (szOf P t = some n) && decide (aggB P t = some ag) && (ag || n == 1)
def layZ (t : TypeId) (z : List TV) : Bool := match zeOf P t with
  | some v => cvals v.cells.toList z
  | none => false
/-- A struct's parts. -/
def chkParts (fs : Array Field) : List (Nat × Operand) → List (Nat × Nat × Src) → Bool
  | [], [] => true
  | (i, o) :: os, (off, n, x) :: xs => (match fs[i]? with
      | some f => f.offset == off && decide (szOf P f.type = some n)
      | none => false) && chkS o x && chkParts fs os xs
  | _, _ => false
/-- The places of the fields that '==' looks at, each one cell that is a number, a bool or a text. -/
def eqPlaces : List Field → Option (List (Nat × Nat))
  | [] => some []
  | f :: fs => match eqPlaces fs with
    | some l => if f.name == "_" then some l else match P.underlying f.type with
      | some (.int _) => some ((f.offset, 0) :: l)
      | some .bool => some ((f.offset, 1) :: l)
      | some .string => some ((f.offset, 2) :: l)
      | _ => none
    | none => none
def chkOp (o : Op) (x : TOp) : Bool :=
  match o, x with
  | .move a, .mv _ b | .assign a, .mv _ b => chkS a b
  | .move a, .mvk b | .assign a, .mvk b => chkS a b
  | .pick a b c, .pick a' b' c' => chkS a a' && chkS b b' && chkS c c'
  | .box _ a, .lbx _ b | .box _ a, .hbx _ b => chkS a b
  | .alloc t, .lal z | .alloc t, .hal z => layZ P t z
  | .build t ps, .build z qs => match fieldsOf P t with
    | some fs => layZ P t z && (fs.all fun f => (szOf P f.type).isSome) && chkParts P fs ps.toList qs
    | none => false
  | .buildSlice t n ps, .bsl ag sz n' z qs => match elemOf? P t with
    | some e => n == n' && 0 < n && lay P e ag sz && 0 < sz && n * sz ≤ 16777216 && layZ P e z && z.length == sz && z.all TV.isElt && chkPs ps.toList qs
    | none => false
  | .buildSlice t n ps, .bsr ag sz n' z qs => match elemOf? P t with
    | some e => n == n' && 0 < n && lay P e ag sz && 0 < sz && n * sz ≤ 16777216 && layZ P e z && z.length == sz && z.all TV.isElt && chkPs ps.toList qs
    | none => false
  | .load t a, .ldl _ ag n _ b => lay P t ag n && chkS a b
  | .load t a, .ldh _ ag n b => lay P t ag n && chkS a b
  | .load t a, .ldk ag n b => lay P t ag n && chkS a b
  | .load t a, .ldr ag n _ b => lay P t ag n && chkS a b
  | .load t a, .ldc ag n b => lay P t ag n && chkS a b
  | .store t a v, .stl _ n _ b x => decide (szOf P t = some n) && chkS a b && chkS v x
  | .store t a v, .sth _ n b x => decide (szOf P t = some n) && chkS a b && chkS v x
  | .nilCheck a, .nilc b => chkS a b
  | .binOp op _ a b _, .ar op' a' b' => decide (op = op') && chkS a a' && chkS b b'
  | .binOp op t a b _, .eqb neg a' b' => decide (op = if neg then .neq else .eql) && (match P.underlying t with | some .bool => true | _ => false) && chkS a a' && chkS b b'
  | .binOp op t a b _, .eqp neg a' b' => decide (op = if neg then .neq else .eql) && (match P.underlying t with | some (.pointer _) => true | _ => false) && chkS a a' && chkS b b'
  | .binOp op t a b _, .eqs neg l a' b' => decide (op = if neg then .neq else .eql) && (match P.underlying t with
      | some (.struct fs) => decide (eqPlaces P fs.toList = some l)
      | _ => false) && !P.eqGuardType P.depth t && !P.stoodInHeld t && chkS a a' && chkS b b'
  | .unOp .not _ a, .not b => chkS a b
  | .unOp .neg _ a, .neg b => chkS a b
  | .convert s d a, .cvi k b => (P.underlying s).isSome && (match P.underlying d with | some (.int k') => decide (k = k') | _ => false) && chkS a b
  | .convert s d a, .cvt b => (P.underlying s).isSome && isStrT P d && chkS a b
  | .convert s d a, .cvs b => isStrT P d && (match elemOf? P s with | some e => isU8 P e | none => false) && chkS a b
  | .convert s d a, .cvb b => (P.underlying s).isSome && (match elemOf? P d with | some e => isU8 P e | none => false) && chkS a b
  | .convert s d a, .cvx b => s == d && (match elemOf? P d with | some e => isU8 P e | none => false) && chkS a b
  | .makeFunc (.func f) fi cs, .mkf f' bs => f == f' && fi.size == 0 && chkSs cs.toList bs
  | .makeSlice t l c, .mks ag sz bytes z l' c' => match elemOf? P t with
    | some e => lay P e ag sz && 0 < sz && decide (byOf P e = some bytes) && 0 < bytes && layZ P e z && z.length == sz && chkS l l' && chkS c c'
    | none => false
  | .slice t a lo hi mx, .slc sz b lo' hi' mx' => match elemOf? P t with
    | some e => decide (szOf P e = some sz) && 0 < sz && chkS a b && chkSO lo lo' && chkSO hi hi' && chkSO mx mx' && (mx.isNone || hi.isSome)
    | none => false
  | .slice t a lo hi none, .slx sz b lo' hi' => match elemOf? P t with
    | some e => decide (szOf P e = some sz) && 0 < sz && chkS a b && chkSO lo lo' && chkSO hi hi'
    | none => false
  | .slice t a lo hi none, .sls b lo' hi' => isStrT P t && chkS a b && chkSO lo lo' && chkSO hi hi'
  | .fieldAddr t a i, .fa off b => match fieldsOf P t with
    | some fs => (match fs[i]? with
      | some f => f.offset == off && (match szOf P f.type with | some n => 0 < n | none => false)
      | none => false) && chkS a b
    | none => false
  | .field t a i, .fld ag n off b => match fieldsOf P t with
    | some fs => (match fs[i]? with
      | some f => f.offset == off && lay P f.type ag n && 0 < n
      | none => false) && chkS a b
    | none => false
  | .indexAddr t a i, .ia sz b j => match elemOf? P t with
    | some e => decide (szOf P e = some sz) && 0 < sz && chkS a b && chkS i j
    | none => false
  | .index t a i, .sx b j => isStrT P t && chkS a b && chkS i j
  | .extract a i, .ext _ j b => i == j && chkS a b
  | .call { callee := .value (.func f), args := as, .. }, .call _ f' bs => f == f' && chkSs as.toList (bs.map (·.2))
  | .call { callee := .value (.tmp u), args := as, .. }, .callv _ y bs => chkS (.tmp u) y && chkSs as.toList (bs.map (·.2))
  | .call { callee := .value y, args := as, .. }, .calk _ x bs => chkS y x && (match y with | .const _ => false | _ => true) && chkSs as.toList (bs.map (·.2))
  | .call { callee := .builtin .len, args := as, argTypes := ts }, .len b x => as.size == 1 && (match as[0]?, ts[0]? with
      | some a, some t => chkS a x && (if b then isStrT P t else (elemOf? P t).isSome)
      | _, _ => false)
  | .call { callee := .builtin .append, args := as, argTypes := ts }, .app _ sz bytes x y => (match as.toList, ts.toList with
      | [a, b], [t, u] => (match elemOf? P t with
        | some e => decide (szOf P e = some sz) && 0 < sz && decide (byOf P e = some bytes) && 0 < bytes && (match zeOf P e with | some v => v.cells.size == sz | none => false)
        | none => false) && chkS a x && chkS b y && (isStrT P u || (elemOf? P u).isSome)
      | _, _ => false)
  | .call { callee := .builtin .append, args := as, argTypes := ts }, .apr ag sz bytes x y => (match as.toList, ts.toList with
      | [a, b], [t, u] => (match elemOf? P t with
        | some e => lay P e ag sz && 0 < sz && decide (byOf P e = some bytes) && 0 < bytes && (match zeOf P e with | some v => v.cells.size == sz | none => false)
        | none => false) && chkS a x && chkS b y && (isStrT P u || (elemOf? P u).isSome)
      | _, _ => false)
  | .call { callee := .builtin .clear, args := as, argTypes := ts }, .clr z x => (match as.toList, ts.toList with
      | [a], [t] => (match elemOf? P t with
        | some e => decide (szOf P e = some z.length) && 0 < z.length && layZ P e z
        | none => false) && chkS a x
      | _, _ => false)
  | .call { callee := .builtin .copy, args := as, argTypes := ts }, .cpy sz x y => (match as.toList, ts.toList with
      | [a, b], [t, _] => sz == 1 && (match elemOf? P t with
        | some e => decide (szOf P e = some 1)
        | none => false) && chkS a x && chkS b y
      | _, _ => false)
  | .call { callee := .builtin .min, args := as, .. }, .mn x y => (match as.toList with | [a, b] => chkS a x && chkS b y | _ => false)
  | .call { callee := .builtin .max, args := as, .. }, .mx x y => (match as.toList with | [a, b] => chkS a x && chkS b y | _ => false)
  | _, _ => false
def chkG (ops : Array Oper) : Option (Nat × Bool) → Option (Nat × Bool) → Bool
  | none, none => true
  | some (j, w), some (s, w') => decide ((ops[j]?).bind (·.dst) = some s) && w == w'
  | _, _ => false
def chkOper (ops : Array Oper) (o : Oper) (x : TOper) : Bool := decide (o.dst = x.d) && chkG ops o.guard x.g && chkOp P o.op x.op
def chkOpers (ops : Array Oper) : List Oper → List TOper → Bool
  | [], [] => true
  | o :: os, x :: xs => chkOper P ops o x && chkOpers ops os xs
  | _, _ => false
end
/-- The slots that an operand names. -/
def Src.ss : Src → List Nat
  | .s i => [i]
  | .c _ => []
def tkS (b : Bool) (x : Src) : List Nat := if b then x.ss else []
def rdS (b : Bool) (x : Src) : List Nat := if b then [] else x.ss
/-- What an operation reads of the slots, whatever they own. -/
def TOp.rd : TOp → List Nat
  | .mv b x | .lbx b x | .hbx b x => rdS b x
  | .nilc x | .not x | .neg x | .cvi _ x | .cvt x | .cvs x | .cvb x | .fa _ x | .fld _ _ _ x | .len _ x | .ldh _ _ _ x | .ldc _ _ x | .ldk _ _ x => x.ss
  | .ldr _ _ r x => r.ss ++ x.ss
  | .ext b _ x => rdS b x
  | .pick a b c => a.ss ++ (b.ss ++ c.ss)
  | .lal _ | .hal _ | .cvx _ | .mvk _ => []
  | .build _ ps => ps.flatMap fun p => p.2.2.ss
  | .bsl _ _ _ _ ps | .bsr _ _ _ _ ps => ps.flatMap fun p => p.2.ss
  | .apr _ _ _ _ y => y.ss
  | .clr _ x => x.ss
  | .ldl k _ _ b p => (if k then [] else [b]) ++ p.ss
  | .stl k _ _ p x => p.ss ++ rdS k x
  | .sth k _ p x => p.ss ++ rdS k x
  | .ar _ x y | .eqb _ x y | .eqp _ x y | .eqs _ _ x y | .ia _ x y | .sx x y | .cpy _ x y | .mn x y | .mx x y | .mks _ _ _ _ x y => x.ss ++ y.ss
  | .app k _ _ x y => rdS k x ++ y.ss
  | .mkf _ cs => cs.flatMap Src.ss
  | .slc _ x lo hi m => x.ss ++ (lo.elim [] Src.ss ++ (hi.elim [] Src.ss ++ m.elim [] Src.ss))
  | .slx _ x lo hi => x.ss ++ (lo.elim [] Src.ss ++ hi.elim [] Src.ss)
  | .sls x lo hi => x.ss ++ (lo.elim [] Src.ss ++ hi.elim [] Src.ss)
  | .call _ _ as => as.flatMap fun p => rdS p.1 p.2
  | .callv _ x as => x.ss ++ as.flatMap fun p => rdS p.1 p.2
  | .calk ks x as => ks.flatMap Src.ss ++ (x.ss ++ as.flatMap fun p => rdS p.1 p.2)
/-- What it takes: what these slots own may turn, and nothing else of them. -/
def TOp.tk : TOp → List Nat
  | .mv b x | .lbx b x | .hbx b x | .ext b _ x => tkS b x
  | .cvx x | .mvk x => x.ss
  | .sth b _ _ x => tkS b x
  | .stl b _ _ _ x => tkS b x
  | .app b _ _ x _ => tkS b x
  | .apr _ _ _ x _ => x.ss
  | .ldl b _ _ s _ => if b then [s] else []
  | .call _ _ as | .callv _ _ as | .calk _ _ as => as.flatMap fun p => tkS p.1 p.2
  | _ => []
/-- The slot whose box it writes. -/
def TOp.bx : TOp → List Nat
  | .stl _ _ b _ _ => [b]
  | _ => []
/-- The boxes: 0: nothing, 1: it reads them, 2: it may write them. -/
def TOp.hp : TOp → Nat
  | .ldh b _ _ _ => if b then 2 else 1
  | .call b _ _ | .callv b _ _ => match b with
    | 0 => 2
    | 1 => 1
    | 3 => 2
    | 4 => 1
    | _ => 0
  | .app .. | .cvs _ | .ldk .. | .ldr .. | .slx .. => 1
  | .hbx .. | .hal _ | .mks .. | .cpy .. | .sth .. | .bsr .. | .apr .. | .clr .. | .calk .. => 2
  | _ => 0
def TOp.jl : TOp → Bool
  | .lbx .. | .lal _ => true
  | _ => false
def TOper.rd (o : TOper) : List Nat := (match o.g with | some (g, _) => [g] | none => []) ++ o.op.rd
def TOper.wr (o : TOper) : List Nat := o.d.toList ++ o.op.bx
def apartL (a b : List Nat) : Bool := a.all fun x => !b.contains x
def Src.beq : Src → Src → Bool
  | .s i, .s j => i == j
  | _, _ => false
/-- Does the one look into a box alone that the other one, a call, leaves as it is? -/
def ldKept (x y : TOp) : Bool := match x, y with
  | .ldr _ _ r _, .calk ks _ _ => ks.any (Src.beq r)
  | _, _ => false
/-- May the two be carried out in either order? -/
def comm (x y : TOper) : Bool :=
  !x.op.jl && !y.op.jl && apartL x.wr (y.rd ++ (y.op.tk ++ y.wr)) && apartL y.wr (x.rd ++ (x.op.tk ++ x.wr)) && apartL x.op.tk y.op.tk &&
    (x.op.hp == 0 || y.op.hp == 0 || (x.op.hp == 1 && y.op.hp == 1) || ldKept x.op y.op || ldKept y.op x.op)
/-- Each two of which neither waits for the other. -/
def commAll (b : Array Nat) (xs : Array TOper) : Bool :=
  (List.range xs.size).all fun j => (List.range j).all fun i => (b.getD j 0).testBit i || comm (xs.getD i default) (xs.getD j default)
def chkC (P : Program) : Code → TC → Bool
  | .skip, .skip => true
  | .region _ ops draw, .reg xs _ => chkOpers P ops ops.toList xs && (!draw || (P.follows .mixedOrders && ((List.range ops.size).all fun j => match ops[j]? with | some o => o.after.all fun e => !Region.binds .any e || decide (e.on < j) | none => true) && commAll (Region.before ops) xs.toArray))
  | .seq a b, .seq x y => chkC P a x && chkC P b y
  | .cond c a b, .cond c' x y => chkS c c' && chkC P a x && chkC P b y
  | .block i a, .block j x => i == j && chkC P a x
  | .loop a, .loop x => chkC P a x
  | .exit i, .exit j => i == j
  | .ret, .ret => true
  | _, _ => false
def chkR (P : Program) : List ResultVar → List TRes → Bool
  | [], [] => true
  | .tmp t :: rs, .tmp t' :: xs => t == t' && chkR P rs xs
  | .cell a t :: rs, .cell a' ag n :: xs => a == a' && lay P t ag n && chkR P rs xs
  | _, _ => false
/-- The function f of P has this code. -/
def chkF (P : Program) (f : Nat) (tf : TF) : Bool :=
  match P.funcs[f]? with
  | some fn => match fn.body with
    | some c => chkC P c tf.body && chkR P fn.results.toList tf.res && slotsDistinct tf.res [] && fn.ntmps == tf.ntmps && fn.name != "runtime.NumGoroutine"
    | none => false
  | none => false
end Go.T
