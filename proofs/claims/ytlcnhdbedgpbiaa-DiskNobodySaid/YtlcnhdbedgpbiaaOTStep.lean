/- A step of the small machine is a step of the model. -/
import Derived.Test.YtlcnhdbedgpbiaaOTCall2
import Derived.Test.YtlcnhdbedgpbiaaOTOps17
set_option linter.unusedVariables false
set_option linter.unusedSimpArgs false
set_option maxRecDepth 10000
namespace Go.T
section
variable {P : Program} {w : World} {g : Gh} {ow : Ow} {st : St} {a : Act} {o : Oper} {call : CallF}
theorem snd_op (hcs : CallSound P call) (hord : OrdC call) {x : TOp} {d : Dl} (hc : chkOp P o.op x = true) (hI : Inv w g ow st a) (hd : delta call st x = some d) {Q : Exit → Act → World → Prop} :
    o.wp P a w (Nxt w g ow st.h.length (d.ap o.dst st)) Q := by
  cases x with
  | mv => exact snd_mv hc hI hd
  | pick => exact snd_pick hc hI hd
  | lbx => exact snd_lbx hc hI hd
  | lal => exact snd_lal hc hI hd
  | hbx => exact snd_hbx hc hI hd
  | hal => exact snd_hal hc hI hd
  | build => exact snd_build hc hI hd
  | bsl => exact snd_bsl hc hI hd
  | ldl => exact snd_ldl hc hI hd
  | ldh => exact snd_ldh hc hI hd
  | ldc => exact snd_ldc hc hI hd
  | stl => exact snd_stl hc hI hd
  | sth => exact snd_sth hc hI hd
  | nilc => exact snd_nilc hc hI hd
  | ar => exact snd_ar hc hI hd
  | eqb => exact snd_eqb hc hI hd
  | eqp => exact snd_eqp hc hI hd
  | eqs => exact snd_eqs hc hI hd
  | not => exact snd_not hc hI hd
  | neg => exact snd_neg hc hI hd
  | cvi => exact snd_cvi hc hI hd
  | cvt => exact snd_cvt hc hI hd
  | cvs => exact snd_cvs hc hI hd
  | cvb => exact snd_cvb hc hI hd
  | cvx => exact snd_cvx hc hI hd
  | mkf => exact snd_mkf hc hI hd
  | mks => exact snd_mks hc hI hd
  | slc => exact snd_slc hc hI hd
  | sls => exact snd_sls hc hI hd
  | fa => exact snd_fa hc hI hd
  | fld => exact snd_fld hc hI hd
  | ia => exact snd_ia hc hI hd
  | sx => exact snd_sx hc hI hd
  | ext => exact snd_ext hc hI hd
  | call => exact snd_call hc hI hcs hord hd
  | callv => exact snd_callv hc hI hcs hord hd
  | calk => exact snd_calk hc hI hcs hord hd
  | mvk => exact snd_mvk hc hI hd
  | bsr => exact snd_bsr hc hI hd
  | ldk => exact snd_ldk hc hI hd
  | ldr => exact snd_ldr hc hI hd
  | slx => exact snd_slx hc hI hd
  | apr => exact snd_apr hc hI hd
  | clr => exact snd_clr hc hI hd
  | len => exact snd_len hc hI hd
  | app => exact snd_app hc hI hd
  | cpy => exact snd_cpy hc hI hd
  | mn => exact snd_mn hc hI hd
  | mx => exact snd_mx hc hI hd
/-- The guard. -/
theorem wanted_spec {ops : Array Oper} {tg : Option (Nat × Bool)} (hg : chkG ops o.guard tg = true) (hI : Inv w g ow st a) {b : Bool} (hw : wanted st.t tg = some b) : Region.wanted o (yielded ops a.tmps) = b := by
  unfold chkG at hg
  split at hg
  · rename_i h1
    simp only [wanted, Option.some.injEq] at hw
    subst hw
    simp [Region.wanted, h1]
  · rename_i j wn s wn' h1
    simp at hg
    obtain ⟨hj, rfl⟩ := hg
    simp only [wanted] at hw
    simp only [Region.wanted, h1]
    have hy : yielded ops a.tmps j = match a.tmps[s]? with | some (.bool b) => some b | _ => none := by
      unfold yielded
      have : ((ops[j]?).bind (·.dst)) = some s := by simpa using hj
      simp only [this, Option.bind_some]
      cases a.tmps[s]? with
      | none => rfl
      | some u => cases u <;> rfl
    have hsl := hI.slot s
    have hget : ∀ v, a.tmps.getD s undef = v → v ≠ undef → a.tmps[s]? = some v := by
      intro v hv hne
      simp only [Array.getD_eq_getD_getElem?] at hv
      cases hh : a.tmps[s]? with
      | none => rw [hh] at hv; exact absurd hv.symm hne
      | some u => rw [hh] at hv; simp at hv; rw [hv]
    split at hw
    · rename_i b' hsb
      rw [hsb] at hsl
      have := hget _ hsl.1.bool_inv (by simp [undef])
      rw [hy, this]
      simp at hw
      subst hw
      simp
    · rename_i hsb
      rw [hsb] at hsl
      have hv := hsl.1
      generalize hq : a.tmps.getD s undef = q at hv
      simp at hw
      subst hw
      cases hv with
      | tup _ us hl _ _ =>
        have : yielded ops a.tmps j = none := by
          rw [hy]
          simp only [Array.getD_eq_getD_getElem?] at hq
          cases hh : a.tmps[s]? with
          | none => rfl
          | some u => rw [hh] at hq; simp at hq; subst hq; rfl
        rw [this]; rfl
    · cases hw
  · cases hg
/-- One operation at its place in a region. -/
theorem step_wpOp (hcs : CallSound P call) (hord : OrdC call) {ops : Array Oper} {i : Nat} {x : TOper} (ho : ops[i]? = some o) (hc : chkOper P ops o x = true) (hI : Inv w g ow st a) {st' : St} (hs : step call x st = some st') {Q : Exit → Act → World → Prop} :
    wpOp P ops Q i (Nxt w g ow st.h.length st') a w := by
  simp only [chkOper, Bool.and_eq_true, decide_eq_true_eq] at hc
  obtain ⟨⟨hd, hg⟩, hop⟩ := hc
  unfold wpOp
  simp only [ho]
  unfold step at hs
  split at hs
  · rename_i d hdl
    split at hs
    · obtain rfl := Option.some.inj hs
      unfold dlt at hdl
      split at hdl
      · rename_i hw
        rw [wanted_spec hg hI hw]
        rw [← hd]
        exact .inl (snd_op hcs hord hop hI hdl)
      · rename_i hw
        rw [wanted_spec hg hI hw]
        obtain rfl := Option.some.inj hdl
        rw [← hd]
        have := hI.nx0 (dst := o.dst) (x := .tup []) (v := undef) ⟨.tup [] #[] rfl (by simp) (by simp), rfl, fun w' g' ow' q => by
          intro p sz s l A n c hs
          cases hs with
          | tup _ _ k x v p _ _ hx hv h => simp at hx⟩
        exact this
      · cases hdl
    · cases hs
  · cases hs
end
end Go.T
