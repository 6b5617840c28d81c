/- The small machine, step by step, as equations. -/
import Derived.Test.YtlcnhdbedgpbiaaOTLim
set_option linter.unusedVariables false
set_option linter.unusedSimpArgs false
set_option maxRecDepth 10000
namespace Go.T
/-- What is still to be done. -/
inductive Fr where
  | seq (b : TC)
  | blk (id : Nat)
  | loop (b : TC)
/-- The function asks of its end that it is this answer. -/
structure Cx where
  call : CallF
  fz : Bool
  rs : List TRes
  r : Ret
def Fin (cx : Cx) (st : St) : Prop := finish cx.fz cx.rs st = some cx.r
def Back (cx : Cx) : List Fr → Ex → St → Prop
  | [], .norm, st => Fin cx st
  | [], .ret, st => Fin cx st
  | [], .ex _, _ => False
  | .seq b :: ks, .norm, st => W cx.call b (Back cx ks) st
  | .seq _ :: ks, .ret, st => Back cx ks .ret st
  | .seq _ :: ks, .ex i, st => Back cx ks (.ex i) st
  | .blk _ :: ks, .norm, st => Back cx ks .norm st
  | .blk _ :: ks, .ret, st => Back cx ks .ret st
  | .blk id :: ks, .ex i, st => if i = id then Back cx ks .norm st else Back cx ks (.ex i) st
  | .loop b :: ks, .norm, st => W cx.call (.loop b) (Back cx ks) st
  | .loop _ :: ks, .ret, st => Back cx ks .ret st
  | .loop _ :: ks, .ex i, st => Back cx ks (.ex i) st
def Run (cx : Cx) (ks : List Fr) (c : TC) (st : St) : Prop := W cx.call c (Back cx ks) st
def RS (cx : Cx) (ks : List Fr) (ops : List TOper) (kl : List Nat) (st : St) : Prop := match steps cx.call ops st with
  | some st' => Back cx ks .norm (st'.kill kl)
  | none => False
/-- An operation's answer, and on. -/
def Ap (cx : Cx) (ks : List Fr) (d : Option Nat) (os : List TOper) (kl : List Nat) (st : St) : Option Dl → Prop
  | some x => if okD st.t d x then RS cx ks os kl (x.ap d st) else False
  | none => False
def Cnd : Option TV → Prop → Prop → Prop
  | some (.bool true), A, _ => A
  | some (.bool false), _, B => B
  | _, _, _ => False
def killT : List Nat → List TV → List TV
  | [], t => t
  | i :: is, t => killT is (t.set i .junk)
section
variable {cx : Cx} {ks : List Fr} {st : St}
theorem Run_skip : Run cx ks .skip st = Back cx ks .norm st := rfl
theorem Run_ret : Run cx ks .ret st = Back cx ks .ret st := rfl
theorem Run_exit {i : Nat} : Run cx ks (.exit i) st = Back cx ks (.ex i) st := rfl
theorem Run_seq {a b : TC} : Run cx ks (.seq a b) st = Run cx (.seq b :: ks) a st := by
  unfold Run
  rw [W]
  congr 1
  funext e s
  cases e <;> rfl
theorem Run_block {i : Nat} {a : TC} : Run cx ks (.block i a) st = Run cx (.blk i :: ks) a st := by
  unfold Run
  rw [W]
  congr 1
  funext e s
  cases e <;> rfl
theorem Run_loop {a : TC} : Run cx ks (.loop a) st = Run cx (.loop a :: ks) a st := by
  unfold Run
  rw [W_loop]
  congr 1
  funext e s
  cases e <;> rfl
theorem Run_cond {c : Src} {a b : TC} : Run cx ks (.cond c a b) st = Cnd (ev st.t c) (Run cx ks a st) (Run cx ks b st) := by
  unfold Run
  rw [W]
  cases h : ev st.t c with
  | none => rfl
  | some v =>
    cases v <;> try rfl
    case bool p => cases p <;> rfl
theorem Run_reg {ops : List TOper} {kl : List Nat} : Run cx ks (.reg ops kl) st = RS cx ks ops kl st := rfl
theorem Back_seq {b : TC} : Back cx (.seq b :: ks) .norm st = Run cx ks b st := rfl
theorem Back_seq_ret {b : TC} : Back cx (.seq b :: ks) .ret st = Back cx ks .ret st := rfl
theorem Back_seq_ex {b : TC} {i : Nat} : Back cx (.seq b :: ks) (.ex i) st = Back cx ks (.ex i) st := rfl
theorem Back_blk {i : Nat} : Back cx (.blk i :: ks) .norm st = Back cx ks .norm st := rfl
theorem Back_blk_ret {i : Nat} : Back cx (.blk i :: ks) .ret st = Back cx ks .ret st := rfl
theorem Back_blk_ex {i j : Nat} : Back cx (.blk i :: ks) (.ex j) st = if j = i then Back cx ks .norm st else Back cx ks (.ex j) st := rfl
theorem Back_loop {b : TC} : Back cx (.loop b :: ks) .norm st = Run cx ks (.loop b) st := rfl
theorem Back_loop_ret {b : TC} : Back cx (.loop b :: ks) .ret st = Back cx ks .ret st := rfl
theorem Back_loop_ex {b : TC} {i : Nat} : Back cx (.loop b :: ks) (.ex i) st = Back cx ks (.ex i) st := rfl
theorem Back_nil : Back cx [] .norm st = Fin cx st := rfl
theorem Back_nil_ret : Back cx [] .ret st = Fin cx st := rfl
variable {t : List TV} {h : Heap} {b : Nat} {k : Bool} {kl : List Nat} {os : List TOper}
theorem Cnd_bool {p : Bool} {A B : Prop} : Cnd (some (.bool p)) A B = if p = true then A else B := by
  cases p <;> simp [Cnd]
theorem kill_eq (kl : List Nat) (t : List TV) : (⟨t, h, b, k⟩ : St).kill kl = ⟨killT kl t, h, b, k⟩ := by
  unfold St.kill
  congr 1
  induction kl generalizing t with
  | nil => rfl
  | cons i is ih => exact ih _
theorem RS_nil : RS cx ks [] kl ⟨t, h, b, k⟩ = Back cx ks .norm ⟨killT kl t, h, b, k⟩ := by
  show Back cx ks .norm _ = _
  rw [kill_eq]
theorem RS_cons {d : Option Nat} {op : TOp} : RS cx ks (⟨d, op, none⟩ :: os) kl ⟨t, h, b, k⟩ = Ap cx ks d os kl ⟨t, h, b, k⟩ (delta cx.call ⟨t, h, b, k⟩ op) := by
  unfold RS Ap
  rw [steps]
  unfold step dlt
  simp only [wanted]
  cases delta cx.call ⟨t, h, b, k⟩ op with
  | none => rfl
  | some x =>
    simp only
    cases okD t d x <;> rfl
theorem set_self {t : List TV} {g : Nat} {v : TV} (hv : sl t g = v) (hj : v ≠ .junk) : t.set g v = t := by
  apply List.ext_getElem?
  intro i
  rw [List.getElem?_set]
  split
  · rename_i hgi
    subst hgi
    split
    · rename_i hl
      unfold sl at hv
      rw [List.getD_eq_getElem?_getD] at hv
      rw [List.getElem?_eq_getElem hl] at hv ⊢
      simpa using hv.symm
    · rename_i hl
      unfold sl at hv
      rw [List.getD_eq_getElem?_getD, List.getElem?_eq_none (by omega)] at hv
      exact (hj hv.symm).elim
  · rfl
theorem RS_grd {d : Option Nat} {op : TOp} {g : Nat} {w : Bool} {p : Bool} (hp : sl t g = .bool p) : RS cx ks (⟨d, op, some (g, w)⟩ :: os) kl ⟨t, h, b, k⟩ =
    if p = w then Ap cx ks d os kl ⟨t.set g (.bool w), h, b, k⟩ (delta cx.call ⟨t.set g (.bool w), h, b, k⟩ op) else Ap cx ks d os kl ⟨t.set g (.bool !w), h, b, k⟩ (some { v := .tup [] }) := by
  by_cases hw : p = w
  · subst hw
    rw [if_pos rfl, set_self hp (by simp)]
    unfold RS Ap
    rw [steps]
    unfold step dlt
    simp only [wanted, hp, beq_self_eq_true]
    cases delta cx.call ⟨t, h, b, k⟩ op with
    | none => rfl
    | some x =>
      simp only
      cases okD t d x <;> rfl
  · obtain rfl : p = !w := by cases p <;> cases w <;> simp_all
    rw [if_neg hw, set_self hp (by simp)]
    unfold RS Ap
    rw [steps]
    unfold step dlt
    simp only [wanted, hp]
    rw [show ((!w) == w) = false by cases w <;> rfl]
    simp only
    cases okD t d { v := .tup [] } <;> rfl
/-- The guard's slot is looked up: then as in RS_grd. -/
def Grd (cx : Cx) (ks : List Fr) (d : Option Nat) (op : TOp) (g : Nat) (w : Bool) (os : List TOper) (kl : List Nat) (st : St) : TV → Prop
  | .bool p => if p = w then Ap cx ks d os kl { st with t := st.t.set g (.bool w) } (delta cx.call { st with t := st.t.set g (.bool w) } op) else Ap cx ks d os kl { st with t := st.t.set g (.bool !w) } (some { v := .tup [] })
  | .tup [] => Ap cx ks d os kl st (some { v := .tup [] })
  | _ => False
theorem RS_guard {d : Option Nat} {op : TOp} {g : Nat} {w : Bool} : RS cx ks (⟨d, op, some (g, w)⟩ :: os) kl ⟨t, h, b, k⟩ = Grd cx ks d op g w os kl ⟨t, h, b, k⟩ (sl t g) := by
  unfold Grd
  split
  · rename_i p hp
    exact RS_grd hp
  · rename_i hp
    unfold RS Ap
    rw [steps]
    unfold step dlt
    simp only [wanted, hp]
    cases okD t d { v := .tup [] } <;> rfl
  · rename_i h1 h2
    unfold RS
    rw [steps]
    unfold step dlt
    have : wanted t (some (g, w)) = none := by
      unfold wanted
      simp only
    simp only [this]
theorem Grd_bool {d : Option Nat} {op : TOp} {g : Nat} {w p : Bool} : Grd cx ks d op g w os kl ⟨t, h, b, k⟩ (.bool p) =
    if p = w then Ap cx ks d os kl ⟨t.set g (.bool w), h, b, k⟩ (delta cx.call ⟨t.set g (.bool w), h, b, k⟩ op) else Ap cx ks d os kl ⟨t.set g (.bool !w), h, b, k⟩ (some ⟨.tup [], [], none, none, false⟩) := rfl
theorem Grd_tup {d : Option Nat} {op : TOp} {g : Nat} {w : Bool} : Grd cx ks d op g w os kl ⟨t, h, b, k⟩ (.tup []) = Ap cx ks d os kl ⟨t, h, b, k⟩ (some ⟨.tup [], [], none, none, false⟩) := rfl
/-- A slot that holds no box of its own may be written with what is none. -/
def nL (x y : TV) : Bool := !isLb x && !isLb y
theorem Ap_val {d : Nat} {v : TV} : Ap cx ks (some d) os kl ⟨t, h, b, k⟩ (some ⟨v, [], none, none, false⟩) = if nL (sl t d) v = true then RS cx ks os kl ⟨t.set d v, h, b, k⟩ else False := by
  simp only [Ap, okD, Bool.false_or, nL, Dl.ap, Dl.slots, List.foldl, Bool.false_eq_true, if_false]
  rfl
theorem Ap_tk {d i : Nat} {v : TV} : Ap cx ks (some d) os kl ⟨t, h, b, k⟩ (some ⟨v, [i], none, none, false⟩) = if nL (sl t d) v = true then RS cx ks os kl ⟨(t.set i (sl t i).shrT).set d v, h, b, k⟩ else False := by
  simp only [Ap, okD, Bool.false_or, nL, Dl.ap, Dl.slots, List.foldl, Bool.false_eq_true, if_false]
  rfl
theorem Ap_hw {d : Nat} {v : TV} {h' : Heap} {k' : Bool} : Ap cx ks (some d) os kl ⟨t, h, b, k⟩ (some ⟨v, [], none, some (h', k'), false⟩) = if nL (sl t d) v = true then RS cx ks os kl ⟨t.set d v, h', b, k'⟩ else False := by
  simp only [Ap, okD, Bool.false_or, nL, Dl.ap, Dl.slots, List.foldl, Bool.false_eq_true, if_false]
  rfl
theorem Ap_gen {d : Option Nat} {x : Dl} : Ap cx ks d os kl ⟨t, h, b, k⟩ (some x) = if okD t d x = true then RS cx ks os kl (x.ap d ⟨t, h, b, k⟩) else False := rfl
theorem sl_zero {a : TV} : sl (a :: t) 0 = a := rfl
theorem sl_succ {a : TV} {n : Nat} : sl (a :: t) (n + 1) = sl t n := rfl
end
/-- What is asked of the function's code. -/
theorem callT_of {tab : Nat → Option TF} {ext : Nat → Option CallF} {f : Nat} {tf : TF} (he : ext f = none) (ht : tab f = some tf) {as : List TV} {h : Heap} {r : Ret}
    (hw : Run ⟨callT tab ext, tf.fz, tf.res, r⟩ [] tf.body ⟨as ++ List.replicate (tf.ntmps - as.length) (.tup []), h, h.length, false⟩) : callT tab ext f as h = some r := by
  obtain ⟨e, s, h1, N, h2⟩ := W_ev tf.body _ _ hw
  refine (callT_iff tab ext).2 ⟨N + 1, ?_⟩
  rw [callN]
  simp only [he, ht, h2 N (Nat.le_refl N)]
  cases e with
  | norm => exact h1
  | ret => exact h1
  | ex i => exact h1.elim
theorem callT_ext {tab : Nat → Option TF} {ext : Nat → Option CallF} {f : Nat} {c : CallF} (he : ext f = some c) {as : List TV} {h : Heap} {r : Ret} (hc : c f as h = some r) : callT tab ext f as h = some r :=
  (callT_iff tab ext).2 ⟨1, by rw [callN]; simp only [he]; exact hc⟩
end Go.T
