/- A part of the proofs: the small machine. -/
import Derived.Test.YtijmmpeadikkbaaOM6
import Derived.Orders
/- What a frame of the small machine answers, its model answers. -/
set_option linter.unusedVariables false
set_option linter.unusedSimpArgs false
set_option maxRecDepth 10000
namespace Go.T
def rSlot : TRes → Nat
  | .tmp i => i
  | .cell i _ _ => i
def rDrop : TRes → Bool
  | .tmp _ => false
  | .cell _ ag _ => !ag
def resPos (k0 : Nat) : List TRes → Nat → Option (Nat × Bool)
  | [], _ => none
  | r :: rs, i => if rSlot r = i then some (k0, rDrop r) else resPos (k0 + 1) rs i
def rPlace (single : Bool) (k : Nat) : List Nat := if single then [3] else [3, k]
def resR (single : Bool) (rs : List TRes) : List Nat → List Nat
  | 0 :: i :: p => match resPos 0 rs i with
    | some (k, d) => rPlace single k ++ (if d then p.drop 1 else p)
    | none => 9 :: i :: p
  | r => r
theorem distinct_cons (r : TRes) (rs : List TRes) (seen : List Nat) : slotsDistinct (r :: rs) seen = (!seen.contains (rSlot r) && slotsDistinct rs (rSlot r :: seen)) := by cases r <;> rfl
theorem pos_of : ∀ (rs : List TRes) (seen : List Nat) (k0 k : Nat) (r : TRes), slotsDistinct rs seen = true → rs[k]? = some r → rSlot r ∉ seen ∧ resPos k0 rs (rSlot r) = some (k0 + k, rDrop r) := by
  intro rs
  induction rs with
  | nil => intro seen k0 k r _ h; simp at h
  | cons r0 rs ih =>
    intro seen k0 k r hd h
    rw [distinct_cons] at hd
    simp at hd
    cases k with
    | zero =>
      simp at h
      subst h
      exact ⟨hd.1, by simp [resPos]⟩
    | succ k =>
      simp at h
      obtain ⟨h1, h2⟩ := ih (rSlot r0 :: seen) (k0 + 1) k r hd.2 h
      simp at h1
      refine ⟨h1.2, ?_⟩
      rw [resPos, if_neg (fun e => h1.1 e.symm), h2]
      congr 2; omega
theorem resR_ren (single : Bool) (rs : List TRes) : (∀ q, resR single rs (2 :: q) = 2 :: q) ∧ ∀ r q, resR single rs r = 2 :: q → r = 2 :: q := by
  refine ⟨fun q => rfl, fun r q h => ?_⟩
  unfold resR at h
  split at h
  · split at h
    · unfold rPlace at h
      split at h <;> simp at h
    · simp at h
  · exact h
section
variable {P : Program} {w : World} {g : Gh} {ow : Ow} {st : St} {a : Act}
theorem run_lv {t : TypeId} {ag : Bool} {n : Nat} (hl : lay P t ag n = true) {b o : Nat} {vs : List Value} (hr : w.rangeAt b o vs) (hn : vs.length = n) : (loadVar t (at_ b o)).run P w = .ok (packV ag vs) w := by
  obtain ⟨h1, h2, h3⟩ := lay_of hl
  obtain ⟨ti, h4, h5⟩ := info_of h1
  cases ag with
  | true =>
    have hc : (loadCells (at_ b o) vs.length).run P w = .ok vs.toArray w := run_loadCells_list (P := P) w (at_ b o) vs (fun j v hv => by rw [at_add]; exact hr j v hv)
    rw [hn] at hc
    simp [loadVar, h2, sizeOf, typeInfo, h4, h5, hc, packV]
  | false =>
    have hn1 : n = 1 := h3.resolve_left (by simp)
    match vs, hn with
    | [v], _ =>
      have h0 := hr 0 v rfl
      rw [Nat.add_zero] at h0
      have h0' : w.cell? (at_ b o) = some v := h0
      simp [loadVar, h2, packV, h0']
    | [], h => simp at h; omega
    | _ :: _ :: _, h => simp at h; omega
def resRun (a : Act) : ResultVar → Sem Value
  | .tmp t => pure (a.tmps.getD t undef)
  | .cell b t => do loadVar t (← asAddr (a.tmps.getD b undef))
/-- A result alone. -/
theorem res_one (hI : Inv w g ow st a) {rv : ResultVar} {r : TRes} (hc : chkR P [rv] [r] = true) {v : TV} (h : resOf st r = some v) :
    ∃ u, (resRun a rv).run P w = .ok u w ∧ VR w g st.h.length v u ∧ plainV v = true ∧ argOk v = true ∧
      ∀ (ow' : Ow) q, (∀ b p, ow b = some ([0, rSlot r] ++ p) → ow' b = some (q ++ (if rDrop r then p.drop 1 else p))) → Owns w g ow' q v u := by
  cases r with
  | tmp i =>
    cases rv <;> simp [chkR] at hc
    have hc' := hc.symm
    subst hc'
    simp only [resOf] at h
    have hp : plainV (sl st.t i) = true := by
      split at h
      · cases h
      · cases h
      · rename_i h1 h2
        generalize sl st.t i = x at *
        cases x <;> first | rfl | simp_all [plainV]
    obtain ⟨h1, h2⟩ := hI.plain hp
    have hv : v = sl st.t i ∧ argOk (sl st.t i) = true := by
      split at h
      · cases h
      · cases h
      · split at h
        · rename_i hok; simp at h; exact ⟨h.symm, hok⟩
        · cases h
    obtain ⟨rfl, hok⟩ := hv
    refine ⟨_, rfl, h1, hp, hok, fun ow' q hk => h2.move (fun b p hb => ⟨rfl, rfl, ?_⟩)⟩
    have := hk b p hb
    simpa [rDrop] using this
  | cell i ag n =>
    cases rv <;> simp [chkR] at hc
    obtain ⟨hc', hl⟩ := hc
    have hc' := hc'.symm
    subst hc'
    rename_i t
    have h3 := (lay_of hl).2.2
    simp only [resOf] at h
    have hsl := hI.slot i
    split at h
    · rename_i cs hcs
      rw [hcs] at hsl
      obtain ⟨b, hb, hbox⟩ := hsl
      split at h
      · rename_i us hus
        simp at h
        obtain ⟨vs, r1, r2, r3, r4⟩ := hbox.cut hus
        obtain ⟨p1, p2, p3⟩ := VR.pack (w := w) (g := g) (m := st.h.length) (ag := ag) (us := us) (vs := vs) (by omega) (h3.imp id (fun hh => by omega)) (fun j x v hx hv => ⟨(r4 j x v hx hv).1, (r4 j x v hx hv).2.1⟩)
        subst h
        refine ⟨_, ?_, p1, p2, p3, fun ow' q hk => ?_⟩
        · simp only [resRun, hb, asAddr, Sem.run_bind, Sem.run_pure, Result.andThen_ok]
          exact run_lv hl r1 r2
        · refine owns_pack (by omega) (h3.imp id (fun hh => by omega)) (fun j x v hx hv => ?_)
          obtain ⟨c1, c2, c3⟩ := r4 j x v hx hv
          refine c3.moveCell c1 (fun b hbo => ⟨rfl, rfl, ?_⟩)
          have := hk b [0 + j] (by simpa [rSlot] using hbo)
          rw [this]
          cases ag <;> simp [rDrop]
      · cases h
    · rename_i b off hcs
      rw [hcs] at hsl
      obtain ⟨hvr, _⟩ := hsl
      generalize hq : a.tmps.getD i undef = q at hvr
      cases hvr with
      | ptr _ _ hlt =>
        split at h
        · rename_i us hus
          simp at h
          simp only [getH] at hus
          split at hus
          · rename_i cs hcs2
            obtain ⟨vs, r1, r2, r3, r4⟩ := (hI.box b cs (live_some hcs2).1 (live_some hcs2).2).cut hus
            have hsh : ∀ (j : Nat) (x : TV) (v : Value), (us.map TV.shr0)[j]? = some x → vs[j]? = some v → x.isCell = true ∧ x.noOwn = true ∧ VR w g st.h.length x v := by
              intro j x v hx hv
              obtain ⟨y, hy, rfl⟩ := getElem?_map_some hx
              obtain ⟨c1, c2, c3⟩ := r4 j y v hy hv
              exact ⟨by rw [shr0_isCell]; exact c1, shr0_noOwn y, c2.shr0⟩
            obtain ⟨p1, p2, p3⟩ := VR.pack (w := w) (g := g) (m := st.h.length) (ag := ag) (us := us.map TV.shr0) (vs := vs) (by simp; omega) (h3.imp id (fun hh => by simp; omega)) (fun j x v hx hv => ⟨(hsh j x v hx hv).1, (hsh j x v hx hv).2.2⟩)
            subst h
            refine ⟨_, ?_, p1, p2, p3, fun ow' q hk => owns_pack (by simp; omega) (h3.imp id (fun hh => by simp; omega)) (fun j x v hx hv => owns_cell (hsh j x v hx hv).1 (hsh j x v hx hv).2.1)⟩
            simp only [resRun, hq, asAddr, Sem.run_bind, Sem.run_pure, Result.andThen_ok]
            exact run_lv hl r1 r2
          · cases hus
        · cases h
    · cases h
theorem chkR_cons {rv : ResultVar} {rvs : List ResultVar} {r : TRes} {rs : List TRes} (h : chkR P (rv :: rvs) (r :: rs) = true) : chkR P [rv] [r] = true ∧ chkR P rvs rs = true := by
  cases rv <;> cases r <;> simp [chkR] at h ⊢ <;> simp_all
/-- All results. -/
theorem res_all (hI : Inv w g ow st a) : ∀ (rvs : List ResultVar) (rs : List TRes) (vs : List TV), chkR P rvs rs = true → ress st rs = some vs →
    ∃ us : List Value, (rvs.mapM (resRun a)).run P w = .ok us w ∧ us.length = vs.length ∧ vs.length = rs.length ∧ ∀ (k : Nat) (x : TV) (u : Value), vs[k]? = some x → us[k]? = some u → VR w g st.h.length x u ∧ argOk x = true ∧
      ∃ r, rs[k]? = some r ∧ ∀ (ow' : Ow) q, (∀ b p, ow b = some ([0, rSlot r] ++ p) → ow' b = some (q ++ (if rDrop r then p.drop 1 else p))) → Owns w g ow' q x u := by
  intro rvs
  induction rvs with
  | nil =>
    intro rs vs hc h
    cases rs <;> simp [chkR] at hc
    simp [ress] at h
    subst h
    exact ⟨[], rfl, rfl, rfl, by simp⟩
  | cons rv rvs ih =>
    intro rs vs hc h
    cases rs with
    | nil => cases rv <;> simp [chkR] at hc
    | cons r rs =>
      obtain ⟨c1, c2⟩ := chkR_cons hc
      simp only [ress] at h
      split at h
      · rename_i v vs' hv hvs
        obtain rfl := Option.some.inj h
        obtain ⟨u, e1, e2, e3, e4, e5⟩ := res_one hI c1 hv
        obtain ⟨us, f1, f2, f3, f4⟩ := ih rs vs' c2 hvs
        refine ⟨u :: us, ?_, by simp [f2], by simp [f3], ?_⟩
        · simp only [List.mapM_cons, Sem.run_bind, e1, f1, Result.andThen_ok, Sem.run_pure]
        · intro k x y hx hy
          cases k with
          | zero =>
            simp at hx hy
            subst hx; subst hy
            exact ⟨e2, e4, r, rfl, e5⟩
          | succ k =>
            simp at hx hy
            exact f4 k x y hx hy
      · cases h
def valOf (us : List Value) : Value := match us with | [u] => u | us => .tuple us.toArray
theorem run_results {fn : Func} {us : List Value} (h : (fn.results.toList.mapM (resRun a)).run P w = .ok us w) : (results fn a.tmps).run P w = .ok (valOf us) w := by
  unfold results
  have this : (fn.results.mapM (resRun a)).run P w = .ok us.toArray w := by
    generalize fn.results = rs at h
    obtain ⟨l⟩ := rs
    simp only [List.mapM_toArray]
    have h' : (l.mapM (resRun a)).run P w = .ok us w := h
    simp [h']
  have key : ∀ f : ResultVar → Sem Value, (∀ x, f x = resRun a x) → (fn.results.mapM f).run P w = .ok us.toArray w := by
    intro f hf
    rw [show f = resRun a from funext hf]
    exact this
  rw [Sem.run_bind, key _ (by intro x; cases x <;> rfl)]
  simp only [Result.andThen_ok, Sem.run_pure]
  congr 1
  match us with
  | [] => rfl
  | [u] => rfl
  | _ :: _ :: _ => simp [valOf]
end
end Go.T
/- What a frame of the small machine answers, its model answers: its boxes given up, a row it made frozen. -/
set_option linter.unusedVariables false
set_option linter.unusedSimpArgs false
set_option maxRecDepth 10000
namespace Go.T
section
variable {P : Program} {w : World} {g : Gh} {ow : Ow} {st : St} {a : Act}
theorem one_spec {m : Nat} {vs : List TV} {us : List Value} (hl : us.length = vs.length) (h : ∀ (k : Nat) (x : TV) (u : Value), vs[k]? = some x → us[k]? = some u → VR w g m x u ∧ argOk x = true ∧ Owns w g ow (rPlace (decide (vs.length = 1)) k) x u) :
    VR w g m (one vs) (valOf us) ∧ Owns w g ow [3] (one vs) (valOf us) := by
  by_cases h1 : vs.length = 1
  · match vs, us, hl, h1 with
    | [x], [u], _, _ =>
      obtain ⟨a1, a2, a3⟩ := h 0 x u rfl rfl
      have a3' : Owns w g ow [3] x u := by simpa [rPlace] using a3
      exact ⟨a1, a3'⟩
  · have e1 : one vs = .tup vs := by
      match vs, h1 with
      | [], _ => rfl
      | _ :: _ :: _, _ => rfl
    have e2 : valOf us = .tuple us.toArray := by
      match us, vs, hl, h1 with
      | [], _, _, _ => rfl
      | [_], [_], _, h => simp at h
      | _ :: _ :: _, _, _, _ => rfl
    rw [e1, e2]
    simp only [h1, decide_false] at h
    refine ⟨.tup _ _ (by simp [hl]) (fun j x v hx hv => (h j x v hx (by simpa using hv)).2.1) (fun j x v hx hv => (h j x v hx (by simpa using hv)).1), ?_⟩
    intro p sz s l A n c hs
    cases hs with
    | tup _ _ k x v p _ _ hx hv hh =>
      have := (h k x v hx (by simpa using hv)).2.2 p sz s l A n c hh
      simpa [rPlace] using this
theorem Stp.less {w' : World} {g' : Gh} {ow' : Ow} {m n : Nat} (h : Stp w g ow m w' g' ow') (hn : n ≤ m) : Stp w g ow n w' g' ow' := ⟨h.os, h.tape, h.output, h.size, h.cell, h.imm, fun i hi => h.nu i (by omega), h.row, h.far, h.out⟩
theorem finish_spec (hI : Inv w g ow st a) {rvs : List ResultVar} {rs : List TRes} (hc : chkR P rvs rs = true) (hd : slotsDistinct rs [] = true) {fz : Bool} {r : Ret} (hf : finish fz rs st = some r)
    (hlow : st.keep = false → ∀ i, i < st.base → TV.lts st.base (st.h.getD i []) = true) :
    ∃ us, (rvs.mapM (resRun a)).run P w = .ok us w ∧ st.base ≤ r.h.length ∧ CallPost w g ow st.base r (valOf us) w := by
  unfold finish at hf
  split at hf
  · cases hf
  · rename_i vs hvs
    obtain rfl := Option.some.inj hf
    obtain ⟨us, h1, h2, h3, h4⟩ := res_all (P := P) hI rvs rs vs hc hvs
    refine ⟨us, h1, ?_⟩
    obtain ⟨sg, hsg⟩ : ∃ sg, sg = decide (vs.length = 1) := ⟨_, rfl⟩
    have hstp := Stp.ren (w := w) (g := g) (m := st.h.length) hI.bd (resR sg rs) (resR_ren sg rs).1 (resR_ren sg rs).2
    have hrel : ∀ (k : Nat) (x : TV) (u : Value), vs[k]? = some x → us[k]? = some u → VR w g st.h.length x u ∧ argOk x = true ∧ Owns w g (rnO ow (resR sg rs)) (rPlace sg k) x u := by
      intro k x u hx hu
      obtain ⟨k1, k2, r', hr', k3⟩ := h4 k x u hx hu
      refine ⟨k1, k2, k3 _ _ (fun b p hb => ?_)⟩
      rw [rnO_at hb]
      have := (pos_of rs [] 0 k r' hd hr').2
      simp [resR, this]
    have hbox : ∀ (i : Nat) cs, st.h[i]? = some cs → BoxD w g st.h.length (rnO ow (resR sg rs)) [1, i] cs (g.nu i) := fun i cs hi hdd => (hI.box i cs hi hdd).reow (fun b p hb => by rw [rnO_at hb]; simp [resR])
    have := one_spec h2 (by rw [← hsg]; exact hrel)
    exact trim_post (fz := fz) (r := ⟨one vs, st.h, st.keep⟩) ⟨g, _, hstp.less hI.base, this.1, this.2, hbox, rnO_bd hI.bd⟩ hI.base (fun hk i hi => .inl (hlow hk i hi))
end
end Go.T
/- The functions of the small machine are the program's. -/
set_option linter.unusedVariables false
set_option linter.unusedSimpArgs false
set_option maxRecDepth 10000
namespace Go.T
theorem finish_ord {fz : Bool} {rs : List TRes} {st : St} {r : Ret} (h : finish fz rs st = some r) (hb : st.base ≤ st.h.length) : st.base ≤ r.h.length ∧ (r.kp = false → st.keep = false ∧ ∀ i, i < st.base → r.h.getD i [] = st.h.getD i []) := by
  unfold finish at h
  split at h
  · cases h
  · rename_i vs hvs
    obtain rfl := Option.some.inj h
    have htake : ∀ i, i < st.base → (st.h.take st.base).getD i [] = st.h.getD i [] := by
      intro i hi
      simp only [List.getD_eq_getElem?_getD, List.getElem?_take, if_pos hi]
    refine ⟨trim_len hb, ?_⟩
    by_cases ha : st.h.length = st.base
    · unfold trim; rw [if_pos ha]; exact fun hk => ⟨hk, fun _ _ => rfl⟩
    by_cases hk : st.keep = true
    · unfold trim; rw [if_neg ha, if_pos hk]; exact fun hk => ⟨hk, fun _ _ => rfl⟩
    have hk0 : st.keep = false := by simpa using hk
    unfold trim
    rw [if_neg ha, if_neg hk]
    simp only
    split <;> split <;> first | exact fun _ => ⟨hk0, htake⟩ | exact fun _ => ⟨hk0, fun _ _ => rfl⟩
def ExtOrd (ext : Nat → Option CallF) : Prop := ∀ f c, ext f = some c → ∀ as h r, c f as h = some r → h.length ≤ r.h.length ∧ (r.kp = false → HOrd h r.h)
theorem callN_ord {tab : Nat → Option TF} {ext : Nat → Option CallF} (he : ExtOrd ext) : ∀ n, OrdC (callN tab ext n) := by
  intro n
  induction n with
  | zero => intro f as h r hc; simp [callN] at hc
  | succ n ih =>
    intro f as h r hc
    simp only [callN] at hc
    split at hc
    · rename_i c hx
      exact he f c hx as h r hc
    · split at hc
      · cases hc
      · rename_i tf htf
        split at hc
        · cases hc
        · rename_i ex st hex hrun
          have ho := exec_ord ih n _ _ _ _ hrun
          have hb : st.base = h.length := ho.base
          have hl : h.length ≤ st.h.length := ho.len
          obtain ⟨f1, f2⟩ := finish_ord hc (by omega)
          refine ⟨by omega, fun hk => ?_⟩
          obtain ⟨k1, k2⟩ := f2 hk
          intro i hi b hib hh
          rw [k2 i (by omega)]
          exact (ho.keep k1).2 i hi b hib hh
        · cases hc
/-- What a call's answer says of the program. -/
def CallAt (P : Program) (f : Nat) (as : List TV) (h : Heap) (r : Ret) : Prop :=
  h.length ≤ r.h.length ∧ (∃ fn, P.funcs[f]? = some fn ∧ fn.body.isSome = true ∧ (fn.name == "runtime.NumGoroutine") = false) ∧
    ∀ (w : World) (g : Gh) (ow : Ow) (vs : Array Value), as.length = vs.size →
      (∀ (k : Nat) (x : TV) (v : Value), as[k]? = some x → vs[k]? = some v → argOk x = true ∧ VR w g h.length x v ∧ Owns w g ow [0, k] x v) →
      (∀ (i : Nat) cs, h[i]? = some cs → BoxD w g h.length ow [1, i] cs (g.nu i)) → (∀ b q, ow b = some q → b < w.heap.size) →
      Calls P f vs w (fun e w' => ∃ v, e = .returned v ∧ CallPost w g ow h.length r v w')
theorem callSound_iff {P : Program} {call : CallF} : CallSound P call ↔ ∀ f as h r, call f as h = some r → CallAt P f as h r := Iff.rfl
def ExtSound (P : Program) (ext : Nat → Option CallF) : Prop := ∀ f c, ext f = some c → ∀ as h r, c f as h = some r → CallAt P f as h r
def TabSound (P : Program) (tab : Nat → Option TF) : Prop := ∀ f tf, tab f = some tf → chkF P f tf = true
theorem sl_app {as : List TV} {n j : Nat} : sl (as ++ List.replicate n (.tup [])) j = if j < as.length then sl as j else if j < as.length + n then .tup [] else .junk := by
  unfold sl
  simp only [List.getD_eq_getElem?_getD, List.getElem?_append, List.getElem?_replicate]
  by_cases h : j < as.length
  · simp [h]
  · by_cases h2 : j - as.length < n
    · have : j < as.length + n := by omega
      simp [h, h2, this]
    · have : ¬ j < as.length + n := by omega
      simp [h, h2, this]
theorem callN_sound {P : Program} {tab : Nat → Option TF} {ext : Nat → Option CallF} (ht : TabSound P tab) (he : ExtOrd ext) (hx : ExtSound P ext) (hdr : ∀ call, CallSound P call → OrdC call → DrawSound P call) : ∀ n, CallSound P (callN tab ext n) := by
  intro n
  induction n with
  | zero => intro f as h r hc; simp [callN] at hc
  | succ n ih =>
    intro f as h r hc
    have hord := callN_ord (tab := tab) he n
    have hlen := ((callN_ord (tab := tab) he (n + 1)) f as h r hc).1
    simp only [callN] at hc
    split at hc
    · rename_i c hcx
      exact hx f c hcx as h r hc
    · split at hc
      · cases hc
      · rename_i tf htf
        split at hc
        · cases hc
        · rename_i ex st hex hrun
          have hchk := ht f tf htf
          unfold chkF at hchk
          split at hchk
          · rename_i fn hfn
            split at hchk
            · rename_i c hbody
              simp only [Bool.and_eq_true, beq_iff_eq, bne_iff_ne] at hchk
              obtain ⟨⟨⟨⟨hC, hR⟩, hD⟩, hN⟩, hname⟩ := hchk
              refine ⟨hlen, ⟨fn, hfn, by simp [hbody], by simpa using hname⟩, ?_⟩
              intro w g ow vs hsz hargs hbox hbd
              refine calls_of_wp hfn hbody ?_
              have ho := exec_ord hord n _ _ _ _ hrun
              have hb : st.base = h.length := ho.base
              have hI : Inv w g ow ⟨as ++ List.replicate (tf.ntmps - as.length) (.tup []), h, h.length, false⟩ { tmps := vs ++ Array.replicate (fn.ntmps - vs.size) undef, defers := [] } := by
                refine ⟨rfl, by simp [hsz, hN], fun j => ?_, hbox, hbd, Nat.le_refl _⟩
                show SlotR _ _ _ _ _ _ j (sl (as ++ List.replicate (tf.ntmps - as.length) (.tup [])) j) _
                rw [sl_app]
                by_cases hj : j < as.length
                · rw [if_pos hj]
                  have hx : as[j]? = some as[j] := by simp
                  have hv : vs[j]? = some (vs[j]'(by omega)) := by simp [show j < vs.size by omega]
                  obtain ⟨k1, k2, k3⟩ := hargs j _ _ hx hv
                  have e1 : sl as j = as[j] := by simp [sl, hj]
                  have e2 : (vs ++ Array.replicate (fn.ntmps - vs.size) undef).getD j undef = vs[j]'(by omega) := by
                    simp only [Array.getD_eq_getD_getElem?]
                    rw [Array.getElem?_append_left (by omega), hv]; rfl
                  rw [e1, e2]
                  exact (SlotR.plain (argOk_plain k1)).2 ⟨k2, k3⟩
                · rw [if_neg hj]
                  split
                  · rename_i hj2
                    have e2 : (vs ++ Array.replicate (fn.ntmps - vs.size) undef).getD j undef = undef := by
                      simp only [Array.getD_eq_getD_getElem?]
                      rw [Array.getElem?_append_right (by omega), Array.getElem?_replicate]
                      split <;> rfl
                    rw [e2]
                    refine ⟨.tup [] #[] rfl (by simp) (by simp), fun p sz s l A n c hs => ?_⟩
                    cases hs with
                    | tup _ _ k x v p _ _ hx hv h => simp at hx
                  · exact ⟨.junk _, fun p sz s l A n c hs => by cases hs⟩
              refine wp_mono (exec_wp ih hord (hdr _ ih hord) n c tf.body w g ow _ _ ex st hC hI hrun) ?_
              have hlow : st.keep = false → ∀ i, i < st.base → TV.lts st.base (st.h.getD i []) = true := by
                intro hk i hi
                rw [hb] at hi ⊢
                refine (ho.keep hk).2 i hi _ hi ?_
                show TV.lts h.length (h.getD i []) = true
                exact box_lts hbox hi
              have fin : ∀ a' w', Nxt w g ow h.length st a' w' → a'.defers = [] ∧ ∃ v, (results fn a'.tmps).run P w' = .ok v w' ∧ ∃ v', Ending.returned v = .returned v' ∧ CallPost w g ow h.length r v' w' := by
                rintro a' w' ⟨g1, ow1, n1, n2⟩
                obtain ⟨us, u1, u2, u3⟩ := finish_spec (P := P) n2 hR hD hc hlow
                refine ⟨n2.defers, _, run_results u1, _, rfl, ?_⟩
                rw [hb] at u3
                obtain ⟨g', ow', s1, s2, s3, s4, s5⟩ := u3
                exact ⟨g', ow', n1.trans s1 (Nat.le_refl _), s2, s3, s4, s5⟩
              intro e a' w' hq
              cases e with
              | normal => exact fin a' w' hq.2
              | ret => exact fin a' w' hq.2
              | exit id =>
                obtain ⟨rfl, _⟩ := hq
                exact (hex id rfl).elim
              | goto l => exact hq.elim
              | panic ch => exact hq.elim
              | outgrown => exact hq.elim
            · cases hchk
          · cases hchk
        · cases hc
end Go.T
/- Two operations of the small machine that look at different things may be carried out in either order. -/
set_option linter.unusedVariables false
set_option linter.unusedSimpArgs false
set_option maxRecDepth 10000
namespace Go.T
/-- What every look at a slot sees. -/
def TV.vw : TV → TV
  | .lbox cs => .lbox (cs.map TV.shr0)
  | v => v.shrT
theorem ev_vw (t : List TV) (i : Nat) : ev t (.s i) = match (sl t i).vw with
    | .lbox _ | .lp .. => none
    | v => some v := by
  simp only [ev]
  cases sl t i <;> rfl
structure Agr (x : TOp) (st st' : St) : Prop where
  rd : ∀ i ∈ x.rd, (sl st.t i).vw = (sl st'.t i).vw
  eq : ∀ i ∈ x.tk ++ x.bx, sl st.t i = sl st'.t i
  hp : x.hp ≠ 0 → st.h = st'.h ∧ st.keep = st'.keep
  lb : ∀ i, isLb (sl st.t i) = isLb (sl st'.t i)
section
variable {t t' : List TV} {st st' : St} {call : CallF}
theorem ev_agr {x : Src} (h : ∀ i ∈ x.ss, (sl t i).vw = (sl t' i).vw) : ev t x = ev t' x := by
  cases x with
  | c v => rfl
  | s i => rw [ev_vw, ev_vw, h i (by simp [Src.ss])]
theorem tak_agr {tk : Bool} {x : Src} (h : ∀ i ∈ rdS tk x, (sl t i).vw = (sl t' i).vw) (k : ∀ i ∈ tkS tk x, sl t i = sl t' i) : tak t tk x = tak t' tk x := by
  cases x with
  | c v => rfl
  | s i =>
    cases tk with
    | true =>
      have := k i (by simp [tkS, Src.ss])
      simp only [tak, this]
    | false =>
      have := h i (by simp [rdS, Src.ss])
      have e : ∀ u : List TV, tak u false (.s i) = match (sl u i).vw with
          | .lbox _ | .lp .. => none
          | v => some (v, []) := by
        intro u
        simp only [tak]
        cases sl u i <;> rfl
      rw [e, e, this]
/-- What is no address. -/
def nad : TV → Bool
  | .sl .. | .nils | .agg _ | .tup _ => true
  | _ => false
/-- Addresses that agree. -/
theorem ad_agr {x : Src} (h : ∀ i ∈ x.ss, (sl t i).vw = (sl t' i).vw) : ad t x = ad t' x ∨ (nad (ad t x) = true ∧ nad (ad t' x) = true) := by
  cases x with
  | c v => exact .inl rfl
  | s i =>
    have := h i (by simp [Src.ss])
    simp only [ad]
    cases h1 : sl t i <;> cases h2 : sl t' i <;> rw [h1, h2] at this <;> (try simp [TV.vw, TV.shrT, TV.shrA, TV.shr0] at this) <;> first | exact .inr ⟨rfl, rfl⟩ | exact .inl rfl | exact .inl (by simp [this]) | (simp_all; done)
theorem getH_nad {h : Heap} {v : TV} {n : Nat} (hv : nad v = true) : getH h v n = none := by cases v <;> first | rfl | simp [nad] at hv
theorem evs_agr : ∀ {xs : List Src}, (∀ i ∈ xs.flatMap Src.ss, (sl t i).vw = (sl t' i).vw) → evs t xs = evs t' xs := by
  intro xs
  induction xs with
  | nil => intro _; rfl
  | cons x xs ih =>
    intro h
    simp only [evs]
    rw [ev_agr (fun i hi => h i (by simp [hi])), ih (fun i hi => h i (by simp only [List.flatMap_cons, List.mem_append]; exact .inr hi))]
theorem taks_agr : ∀ {xs : List (Bool × Src)}, (∀ i ∈ xs.flatMap (fun p => rdS p.1 p.2), (sl t i).vw = (sl t' i).vw) → (∀ i ∈ xs.flatMap (fun p => tkS p.1 p.2), sl t i = sl t' i) → taks t xs = taks t' xs := by
  intro xs
  induction xs with
  | nil => intro _ _; rfl
  | cons x xs ih =>
    intro h k
    obtain ⟨b, x⟩ := x
    simp only [taks]
    rw [tak_agr (fun i hi => h i (by simp [hi])) (fun i hi => k i (by simp [hi])), ih (fun i hi => h i (by simp only [List.flatMap_cons, List.mem_append]; exact .inr hi)) (fun i hi => k i (by simp only [List.flatMap_cons, List.mem_append]; exact .inr hi))]
theorem fillP_agr : ∀ {ps : List (Nat × Nat × Src)} {cs : List TV}, (∀ i ∈ ps.flatMap (fun p => p.2.2.ss), (sl t i).vw = (sl t' i).vw) → fillP t ps cs = fillP t' ps cs := by
  intro ps
  induction ps with
  | nil => intro _ _; rfl
  | cons p ps ih =>
    intro cs h
    obtain ⟨o, n, x⟩ := p
    simp only [fillP]
    rw [ev_agr (fun i hi => h i (by simp [hi]))]
    cases ev t' x with
    | none => rfl
    | some v =>
      simp only
      split
      · exact ih (fun i hi => h i (by simp only [List.flatMap_cons, List.mem_append]; exact .inr hi))
      · rfl
theorem fillE_agr {ag : Bool} {sz : Nat} : ∀ {ps : List (Nat × Src)} {cs : List TV}, (∀ i ∈ ps.flatMap (fun p => p.2.ss), (sl t i).vw = (sl t' i).vw) → fillE t ag sz ps cs = fillE t' ag sz ps cs := by
  intro ps
  induction ps with
  | nil => intro _ _; rfl
  | cons p ps ih =>
    intro cs h
    obtain ⟨o, x⟩ := p
    simp only [fillE]
    rw [ev_agr (fun i hi => h i (by simp [hi]))]
    cases ev t' x with
    | none => rfl
    | some v =>
      simp only
      split
      · exact ih (fun i hi => h i (by simp only [List.flatMap_cons, List.mem_append]; exact .inr hi))
      · rfl
theorem bound_agr {x : Option Src} {a b : Nat} (h : ∀ i ∈ x.elim [] Src.ss, (sl t i).vw = (sl t' i).vw) : bound t x a b = bound t' x a b := by
  cases x with
  | none => rfl
  | some x => simp only [bound]; rw [ev_agr h]
theorem callD_agr {pu f : Nat} {tk : List Nat} {vs : List TV} (h : (match pu with | 0 => 2 | 1 => 1 | 3 => 2 | 4 => 1 | _ => 0) ≠ 0 → st.h = st'.h ∧ st.keep = st'.keep) : callD call pu st tk f vs = callD call pu st' tk f vs := by
  unfold callD
  split
  · split
    · obtain ⟨h1, h2⟩ := h (by simp)
      rw [h1, h2]
    · obtain ⟨h1, h2⟩ := h (by simp)
      rw [h1]
    · obtain ⟨h1, h2⟩ := h (by simp)
      rw [h1, h2]
    · obtain ⟨h1, h2⟩ := h (by simp)
      rw [h1]
    · rfl
    · rfl
  · rfl
theorem keptB_agr {h : Heap} : ∀ {ks : List Src}, (∀ i ∈ ks.flatMap Src.ss, (sl t i).vw = (sl t' i).vw) → (fun h' => keptB t h h' ks) = fun h' => keptB t' h h' ks := by
  intro ks
  induction ks with
  | nil => intro _; rfl
  | cons p ks ih =>
    intro hh
    have ih' := ih (fun i hi => hh i (by simp only [List.flatMap_cons, List.mem_append]; exact .inr hi))
    funext h'
    have ih2 : keptB t h h' ks = keptB t' h h' ks := congrFun ih' h'
    simp only [keptB]
    rw [ih2]
    rcases ad_agr (t := t) (t' := t') (x := p) (fun i hi => hh i (by simp [hi])) with e | ⟨e1, e2⟩
    · rw [e]
    · congr 1
      generalize ad t p = A at e1 ⊢
      generalize ad t' p = B at e2 ⊢
      cases A <;> first | (simp [nad] at e1; done) | (cases B <;> first | (simp [nad] at e2; done) | rfl)
theorem ldr_agr {ag : Bool} {n : Nat} {r p : Src} {h : Heap} (R : ∀ i ∈ r.ss ++ p.ss, (sl st.t i).vw = (sl st'.t i).vw) : (match ad st.t r, ad st.t p with
    | .ptr i _, .ptr j _ => if i = j then match getH h (ad st.t p) n with
      | some vs => some ({ v := pack ag (vs.map TV.shrK) } : Dl)
      | none => none
      else none
    | _, _ => none) = match ad st'.t r, ad st'.t p with
    | .ptr i _, .ptr j _ => if i = j then match getH h (ad st'.t p) n with
      | some vs => some { v := pack ag (vs.map TV.shrK) }
      | none => none
      else none
    | _, _ => none := by
  rcases ad_agr (t := st.t) (t' := st'.t) (x := r) (fun i hi => R i (by simp [hi])) with e | ⟨e1, e2⟩
  · rcases ad_agr (t := st.t) (t' := st'.t) (x := p) (fun i hi => R i (by simp [hi])) with f | ⟨f1, f2⟩
    · rw [e, f]
    · rw [e]
      generalize ad st.t p = A at f1 ⊢
      generalize ad st'.t p = B at f2 ⊢
      cases A <;> first | (simp [nad] at f1; done) | (cases B <;> first | (simp [nad] at f2; done) | (cases ad st'.t r <;> rfl))
  · generalize ad st.t r = A at e1 ⊢
    generalize ad st'.t r = B at e2 ⊢
    cases A <;> first | (simp [nad] at e1; done) | (cases B <;> first | (simp [nad] at e2; done) | rfl)
theorem delta_agr {x : TOp} (h : Agr x st st') : delta call st x = delta call st' x := by
  have R := h.rd
  have E := h.eq
  have H := h.hp
  cases x with
  | mv tk x => simp only [delta]; rw [tak_agr (t' := st'.t) (fun i hi => R i hi) (fun i hi => E i (by simp [TOp.tk, hi]))]
  | pick c a b => simp only [delta]; rw [ev_agr (t' := st'.t) (x := c) (fun i hi => R i (by simp [TOp.rd, hi])), ev_agr (t' := st'.t) (x := a) (fun i hi => R i (by simp [TOp.rd, hi])), ev_agr (t' := st'.t) (x := b) (fun i hi => R i (by simp [TOp.rd, hi]))]
  | lbx tk x => simp only [delta]; rw [tak_agr (t' := st'.t) (fun i hi => R i hi) (fun i hi => E i (by simp [TOp.tk, hi]))]
  | lal z => rfl
  | hbx tk x =>
    obtain ⟨h1, h2⟩ := H (by simp [TOp.hp])
    simp only [delta]; rw [tak_agr (t' := st'.t) (fun i hi => R i hi) (fun i hi => E i (by simp [TOp.tk, hi])), h1, h2]
  | hal z =>
    obtain ⟨h1, h2⟩ := H (by simp [TOp.hp])
    simp only [delta]; rw [h1, h2]
  | build z ps => simp only [delta]; rw [fillP_agr (t' := st'.t) (fun i hi => R i hi)]
  | bsl ag sz n z ps => simp only [delta]; rw [fillE_agr (t' := st'.t) (fun i hi => R i hi)]
  | ldl tk ag n b p =>
    simp only [delta]
    rcases ad_agr (t := st.t) (t' := st'.t) (x := p) (fun i hi => R i (by simp [TOp.rd, hi])) with e | ⟨e1, e2⟩
    · rw [e]
      cases ad st'.t p <;> try rfl
      rename_i b' o
      simp only
      split
      · cases tk with
        | true =>
          have := E b (by simp [TOp.tk])
          rw [this]
        | false =>
          have := R b (by simp [TOp.rd])
          cases h1 : sl st.t b <;> cases h2 : sl st'.t b <;> rw [h1, h2] at this <;> simp [TV.vw, TV.shrT, TV.shrA, TV.shr0] at this ⊢
          rename_i c1 c2
          have hc : ∀ c : List TV, (cut c o n).map (List.map TV.shr0) = cut (c.map TV.shr0) o n := by
            intro c
            unfold cut
            by_cases hh : o + n ≤ c.length
            · simp [hh, List.map_drop, List.map_take]
            · simp [hh]
          have h5 : (cut c1 o n).map (List.map TV.shr0) = (cut c2 o n).map (List.map TV.shr0) := by rw [hc, hc, this]
          cases h3 : cut c1 o n <;> cases h4 : cut c2 o n <;> simp [h3, h4] at h5 ⊢
          rw [h5]
      · rfl
    · generalize hA : ad st.t p = A at e1 ⊢
      generalize hB : ad st'.t p = B at e2 ⊢
      cases A <;> first | (simp [nad] at e1; done) | (cases B <;> first | (simp [nad] at e2; done) | rfl | (first | (split <;> rfl) | simp))
  | ldh tk ag n p =>
    obtain ⟨h1, h2⟩ := H (by simp [TOp.hp]; split <;> simp)
    simp only [delta]
    rcases ad_agr (t := st.t) (t' := st'.t) (x := p) (fun i hi => R i (by simp [TOp.rd, hi])) with e | ⟨e1, e2⟩
    · rw [e, h1, h2]
    · rw [getH_nad e1, getH_nad e2]
  | ldc ag n p =>
    simp only [delta]
    rcases ad_agr (t := st.t) (t' := st'.t) (x := p) (fun i hi => R i (by simp [TOp.rd, hi])) with e | ⟨e1, e2⟩
    · rw [e]
    · generalize hA : ad st.t p = A at e1 ⊢
      generalize hB : ad st'.t p = B at e2 ⊢
      cases A <;> first | (simp [nad] at e1; done) | (cases B <;> first | (simp [nad] at e2; done) | rfl | (first | (split <;> rfl) | simp))
  | stl tk n b p x =>
    simp only [delta]
    rw [tak_agr (t' := st'.t) (fun i hi => R i (by simp [TOp.rd, hi])) (fun i hi => E i (by simp [TOp.tk, hi]))]
    have hb := E b (by simp [TOp.bx])
    rcases ad_agr (t := st.t) (t' := st'.t) (x := p) (fun i hi => R i (by simp [TOp.rd, hi])) with e | ⟨e1, e2⟩
    · rw [e, hb]
    · generalize hA : ad st.t p = A at e1 ⊢
      generalize hB : ad st'.t p = B at e2 ⊢
      cases A <;> first | (simp [nad] at e1; done) | (cases B <;> first | (simp [nad] at e2; done) | rfl | (first | (split <;> rfl) | simp))
  | sth tk n p x =>
    obtain ⟨h1, h2⟩ := H (by simp [TOp.hp])
    simp only [delta, keeps]
    rw [tak_agr (t' := st'.t) (fun i hi => R i (by simp [TOp.rd, hi])) (fun i hi => E i (by simp [TOp.tk, hi]))]
    rcases ad_agr (t := st.t) (t' := st'.t) (x := p) (fun i hi => R i (by simp [TOp.rd, hi])) with e | ⟨e1, e2⟩
    · rw [e, h1, h2]
    · generalize hA : ad st.t p = A at e1 ⊢
      generalize hB : ad st'.t p = B at e2 ⊢
      cases A <;> first | (simp [nad] at e1; done) | (cases B <;> first | (simp [nad] at e2; done) | rfl | (first | (split <;> rfl) | simp))
  | nilc x =>
    simp only [delta]
    rcases ad_agr (t := st.t) (t' := st'.t) (x := x) (fun i hi => R i (by simp [TOp.rd, hi])) with e | ⟨e1, e2⟩
    · rw [e]
      cases ad st'.t x <;> try rfl
      rename_i b o
      have := h.lb b
      simp only
      cases h1 : sl st.t b <;> cases h2 : sl st'.t b <;> rw [h1, h2] at this <;> simp [isLb] at this ⊢
    · generalize hA : ad st.t x = A at e1 ⊢
      generalize hB : ad st'.t x = B at e2 ⊢
      cases A <;> first | (simp [nad] at e1; done) | (cases B <;> first | (simp [nad] at e2; done) | rfl | (first | (split <;> rfl) | simp))
  | fa off x =>
    simp only [delta]
    rcases ad_agr (t := st.t) (t' := st'.t) (x := x) (fun i hi => R i (by simp [TOp.rd, hi])) with e | ⟨e1, e2⟩
    · rw [e]
      cases ad st'.t x <;> try rfl
      rename_i b o
      have := h.lb b
      simp only
      cases h1 : sl st.t b <;> cases h2 : sl st'.t b <;> rw [h1, h2] at this <;> simp [isLb] at this ⊢
    · generalize hA : ad st.t x = A at e1 ⊢
      generalize hB : ad st'.t x = B at e2 ⊢
      cases A <;> first | (simp [nad] at e1; done) | (cases B <;> first | (simp [nad] at e2; done) | rfl | (first | (split <;> rfl) | simp))
  | ext tk i x =>
    cases x with
    | c v => rfl
    | s j =>
      simp only [delta]
      cases tk with
      | true => rw [E j (by simp [TOp.tk, tkS, Src.ss])]
      | false =>
        have := R j (by simp [TOp.rd, rdS, Src.ss])
        cases h1 : sl st.t j <;> cases h2 : sl st'.t j <;> rw [h1, h2] at this <;> simp [TV.vw, TV.shrT, TV.shrA, TV.shr0] at this ⊢
        rename_i c1 c2
        have := congrArg (fun l : List TV => l[i]?) this
        simp only [List.getElem?_map] at this
        cases h3 : c1[i]? <;> cases h4 : c2[i]? <;> simp [h3, h4] at this ⊢
        exact this
  | mks ag sz bytes z l c =>
    obtain ⟨h1, h2⟩ := H (by simp [TOp.hp])
    simp only [delta]
    rw [ev_agr (t' := st'.t) (x := l) (fun i hi => R i (by simp [TOp.rd, hi])), ev_agr (t' := st'.t) (x := c) (fun i hi => R i (by simp [TOp.rd, hi])), h1, h2]
  | cpy sz x y =>
    obtain ⟨h1, h2⟩ := H (by simp [TOp.hp])
    simp only [delta, keeps]
    rw [ev_agr (t' := st'.t) (x := x) (fun i hi => R i (by simp [TOp.rd, hi])), ev_agr (t' := st'.t) (x := y) (fun i hi => R i (by simp [TOp.rd, hi])), h1, h2]
  | mkf f cs => simp only [delta]; rw [evs_agr (t' := st'.t) (fun i hi => R i hi)]
  | slc sz x lo hi mx =>
    simp only [delta]
    rw [ev_agr (t' := st'.t) (x := x) (fun i hi => R i (by simp [TOp.rd, hi]))]
    have b1 : ∀ a b, bound st.t mx a b = bound st'.t mx a b := fun a b => bound_agr (fun i hi => R i (by simp only [TOp.rd, List.mem_append]; exact .inr (.inr (.inr hi))))
    have b2 : ∀ a b, bound st.t hi a b = bound st'.t hi a b := fun a b => bound_agr (fun i hi => R i (by simp only [TOp.rd, List.mem_append]; exact .inr (.inr (.inl hi))))
    have b3 : ∀ a b, bound st.t lo a b = bound st'.t lo a b := fun a b => bound_agr (fun i hi => R i (by simp only [TOp.rd, List.mem_append]; exact .inr (.inl hi)))
    simp only [b1, b2, b3]
  | sls x lo hi =>
    simp only [delta]
    rw [ev_agr (t' := st'.t) (x := x) (fun i hi => R i (by simp [TOp.rd, hi]))]
    have b2 : ∀ a b, bound st.t hi a b = bound st'.t hi a b := fun a b => bound_agr (fun i hi => R i (by simp only [TOp.rd, List.mem_append]; exact .inr (.inr hi)))
    have b3 : ∀ a b, bound st.t lo a b = bound st'.t lo a b := fun a b => bound_agr (fun i hi => R i (by simp only [TOp.rd, List.mem_append]; exact .inr (.inl hi)))
    simp only [b2, b3]
  | call pu f as =>
    simp only [delta]
    rw [taks_agr (t' := st'.t) (fun i hi => R i hi) (fun i hi => E i (List.mem_append_left _ hi))]
    cases taks st'.t as with
    | none => rfl
    | some p => exact callD_agr H
  | callv pu x as =>
    simp only [delta]
    rw [taks_agr (t' := st'.t) (fun i hi => R i (List.mem_append_right _ hi)) (fun i hi => E i (List.mem_append_left _ hi)), ev_agr (t' := st'.t) (x := x) (fun i hi => R i (List.mem_append_left _ hi))]
    split
    · exact callD_agr H
    · rfl
  | app tk sz bytes x y =>
    obtain ⟨h1, h2⟩ := H (by simp [TOp.hp])
    simp only [delta]
    rw [h1]
    rw [tak_agr (t' := st'.t) (fun i hi => R i (by simp [TOp.rd, hi])) (fun i hi => E i (by simp [TOp.tk, hi])), ev_agr (t' := st'.t) (x := y) (fun i hi => R i (by simp [TOp.rd, hi]))]
  | cvx x => simp only [delta]; rw [tak_agr (t' := st'.t) (fun i hi => by simp [rdS] at hi) (fun i hi => E i (List.mem_append_left _ (by simpa [TOp.tk, tkS] using hi)))]
  | ar op x y => simp only [delta]; rw [ev_agr (t' := st'.t) (x := x) (fun i hi => R i (by simp [TOp.rd, hi])), ev_agr (t' := st'.t) (x := y) (fun i hi => R i (by simp [TOp.rd, hi]))]
  | eqb op x y => simp only [delta]; rw [ev_agr (t' := st'.t) (x := x) (fun i hi => R i (by simp [TOp.rd, hi])), ev_agr (t' := st'.t) (x := y) (fun i hi => R i (by simp [TOp.rd, hi]))]
  | eqp op x y => simp only [delta]; rw [ev_agr (t' := st'.t) (x := x) (fun i hi => R i (by simp [TOp.rd, hi])), ev_agr (t' := st'.t) (x := y) (fun i hi => R i (by simp [TOp.rd, hi]))]
  | eqs op fs x y => simp only [delta]; rw [ev_agr (t' := st'.t) (x := x) (fun i hi => R i (by simp [TOp.rd, hi])), ev_agr (t' := st'.t) (x := y) (fun i hi => R i (by simp [TOp.rd, hi]))]
  | ia op x y => simp only [delta]; rw [ev_agr (t' := st'.t) (x := x) (fun i hi => R i (by simp [TOp.rd, hi])), ev_agr (t' := st'.t) (x := y) (fun i hi => R i (by simp [TOp.rd, hi]))]
  | sx x y => simp only [delta]; rw [ev_agr (t' := st'.t) (x := x) (fun i hi => R i (by simp [TOp.rd, hi])), ev_agr (t' := st'.t) (x := y) (fun i hi => R i (by simp [TOp.rd, hi]))]
  | mn x y => simp only [delta]; rw [ev_agr (t' := st'.t) (x := x) (fun i hi => R i (by simp [TOp.rd, hi])), ev_agr (t' := st'.t) (x := y) (fun i hi => R i (by simp [TOp.rd, hi]))]
  | mx x y => simp only [delta]; rw [ev_agr (t' := st'.t) (x := x) (fun i hi => R i (by simp [TOp.rd, hi])), ev_agr (t' := st'.t) (x := y) (fun i hi => R i (by simp [TOp.rd, hi]))]
  | not x => simp only [delta]; rw [ev_agr (t' := st'.t) (x := x) (fun i hi => R i (by simp [TOp.rd, hi]))]
  | neg x => simp only [delta]; rw [ev_agr (t' := st'.t) (x := x) (fun i hi => R i (by simp [TOp.rd, hi]))]
  | cvi k x => simp only [delta]; rw [ev_agr (t' := st'.t) (x := x) (fun i hi => R i (by simp [TOp.rd, hi]))]
  | cvt x => simp only [delta]; rw [ev_agr (t' := st'.t) (x := x) (fun i hi => R i (by simp [TOp.rd, hi]))]
  | cvs x =>
    obtain ⟨h1, h2⟩ := H (by simp [TOp.hp])
    simp only [delta]; rw [ev_agr (t' := st'.t) (x := x) (fun i hi => R i (by simp [TOp.rd, hi])), h1]
  | mvk x => simp only [delta]; rw [tak_agr (t' := st'.t) (fun i hi => by simp [rdS] at hi) (fun i hi => E i (List.mem_append_left _ (by simpa [TOp.tk, tkS] using hi)))]
  | bsr ag sz n z ps =>
    obtain ⟨h1, h2⟩ := H (by simp [TOp.hp])
    simp only [delta]; rw [fillE_agr (t' := st'.t) (fun i hi => R i hi), h1, h2]
  | ldk ag n p =>
    obtain ⟨h1, h2⟩ := H (by simp [TOp.hp])
    simp only [delta]
    rcases ad_agr (t := st.t) (t' := st'.t) (x := p) (fun i hi => R i (by simp [TOp.rd, hi])) with e | ⟨e1, e2⟩
    · rw [e, h1]
    · rw [getH_nad e1, getH_nad e2]
  | ldr ag n r p =>
    obtain ⟨h1, h2⟩ := H (by simp [TOp.hp])
    simp only [delta]
    rw [h1]
    exact ldr_agr R
  | slx sz x lo hi =>
    obtain ⟨h1, h2⟩ := H (by simp [TOp.hp])
    simp only [delta]
    rw [ev_agr (t' := st'.t) (x := x) (fun i hi => R i (by simp [TOp.rd, hi])), h1]
    have b2 : ∀ a b, bound st.t hi a b = bound st'.t hi a b := fun a b => bound_agr (fun i hi => R i (by simp only [TOp.rd, List.mem_append]; exact .inr (.inr hi)))
    have b3 : ∀ a b, bound st.t lo a b = bound st'.t lo a b := fun a b => bound_agr (fun i hi => R i (by simp only [TOp.rd, List.mem_append]; exact .inr (.inl hi)))
    simp only [b2, b3]
  | apr ag sz bytes x y =>
    obtain ⟨h1, h2⟩ := H (by simp [TOp.hp])
    simp only [delta, keeps]
    rw [tak_agr (t' := st'.t) (fun i hi => by simp [rdS] at hi) (fun i hi => E i (List.mem_append_left _ (by simpa [TOp.tk, tkS] using hi))), ev_agr (t' := st'.t) (x := y) (fun i hi => R i (by simp [TOp.rd, hi])), h1, h2]
  | clr z x =>
    obtain ⟨h1, h2⟩ := H (by simp [TOp.hp])
    simp only [delta]; rw [ev_agr (t' := st'.t) (x := x) (fun i hi => R i (by simp [TOp.rd, hi])), h1, h2]
  | calk ks x as =>
    obtain ⟨h1, h2⟩ := H (by simp [TOp.hp])
    simp only [delta]
    rw [taks_agr (t' := st'.t) (fun i hi => R i (by simp only [TOp.rd, List.mem_append]; exact .inr (.inr hi))) (fun i hi => E i (List.mem_append_left _ hi)), ev_agr (t' := st'.t) (x := x) (fun i hi => R i (by simp only [TOp.rd, List.mem_append]; exact .inr (.inl hi)))]
    have hk : ∀ h h', keptB st.t h h' ks = keptB st'.t h h' ks := fun h h' => congrFun (keptB_agr (t := st.t) (t' := st'.t) (fun i hi => R i (by simp only [TOp.rd, List.mem_append]; exact .inl hi))) h'
    have hcd : ∀ tk f vs, callD call 0 st tk f vs = callD call 0 st' tk f vs := fun tk f vs => callD_agr (fun _ => ⟨h1, h2⟩)
    simp only [hcd, hk, h1]
  | cvb x => simp only [delta]; rw [ev_agr (t' := st'.t) (x := x) (fun i hi => R i (by simp [TOp.rd, hi]))]
  | fld ag n off x => simp only [delta]; rw [ev_agr (t' := st'.t) (x := x) (fun i hi => R i (by simp [TOp.rd, hi]))]
  | len b x => simp only [delta]; rw [ev_agr (t' := st'.t) (x := x) (fun i hi => R i (by simp [TOp.rd, hi]))]
end
end Go.T
/- Two operations in either order; a region of which the order is drawn. -/
set_option linter.unusedVariables false
set_option linter.unusedSimpArgs false
set_option maxRecDepth 10000
namespace Go.T
theorem shr0_shr0 (x : TV) : x.shr0.shr0 = x.shr0 := by cases x <;> rfl
theorem shrA_shrA (x : TV) : x.shrA.shrA = x.shrA := by
  cases x <;> first | rfl | skip
  simp [TV.shrA, shr0_shr0]
theorem shrT_shrT (x : TV) : x.shrT.shrT = x.shrT := by
  cases x <;> first | rfl | skip
  · simp [TV.shrT, TV.shrA, shr0_shr0]
  · simp [TV.shrT, shrA_shrA]
theorem vw_shrT (x : TV) : x.shrT.vw = x.vw := by
  cases x <;> first | rfl | skip
  · exact shrT_shrT (.agg _)
  · exact shrT_shrT (.tup _)
theorem lb_shrT (x : TV) : isLb x.shrT = isLb x := by cases x <;> rfl
/-- What an operation may touch. -/
structure Foot (x : TOp) (st : St) (d : Dl) : Prop where
  tk : ∀ i ∈ d.tk, i ∈ x.tk
  bw : ∀ b u, d.bw = some (b, u) → isLb u = isLb (sl st.t b) ∧ ((b ∈ x.tk ∧ u.vw = (sl st.t b).vw) ∨ b ∈ x.bx)
  jl : x.jl = false → d.jl = false
  hw : x.hp ≠ 2 → d.hw = none
theorem tak_in {t : List TV} {tk : Bool} {x : Src} {v : TV} {is : List Nat} (h : tak t tk x = some (v, is)) : ∀ i ∈ is, i ∈ tkS tk x := by
  cases x with
  | c v' => cases tk <;> simp [tak] at h <;> (obtain ⟨_, rfl⟩ := h; simp)
  | s i =>
    obtain ⟨_, ⟨_, rfl, rfl⟩ | ⟨_, rfl, rfl⟩⟩ := tak_s h
    · simp [tkS, Src.ss]
    · simp
theorem taks_in {t : List TV} : ∀ {xs : List (Bool × Src)} {vs : List TV} {is : List Nat}, taks t xs = some (vs, is) → ∀ i ∈ is, i ∈ xs.flatMap (fun p => tkS p.1 p.2) := by
  intro xs
  induction xs with
  | nil => intro vs is h; simp [taks] at h; obtain ⟨_, rfl⟩ := h; simp
  | cons p xs ih =>
    intro vs is h
    obtain ⟨b, x⟩ := p
    simp only [taks] at h
    split at h
    · rename_i v i vs' is' h1 h2
      split at h
      · cases h
      · simp at h
        obtain ⟨_, rfl⟩ := h
        intro j hj
        simp only [List.flatMap_cons, List.mem_append] at hj ⊢
        rcases hj with hj | hj
        · exact .inl (tak_in h1 j hj)
        · exact .inr (ih h2 j hj)
    · cases h
theorem Foot.none {x : TOp} {st : St} {d : Dl} (h1 : d.tk = []) (h2 : d.bw = none) (h3 : d.jl = false) (h4 : d.hw = none) : Foot x st d := ⟨by simp [h1], by simp [h2], fun _ => h3, fun _ => h4⟩
theorem Foot.take {x : TOp} {st : St} {d : Dl} (h1 : ∀ i ∈ d.tk, i ∈ x.tk) (h2 : d.bw = Option.none) (h3 : d.jl = false ∨ x.jl = true) (h4 : d.hw = Option.none ∨ x.hp = 2) : Foot x st d := ⟨h1, by simp [h2], fun h => h3.resolve_right (by simp [h]), fun h => h4.resolve_right h⟩
theorem callD_foot {call : CallF} {pu f : Nat} {st : St} {tk : List Nat} {vs : List TV} {d : Dl} (hd : callD call pu st tk f vs = some d) : d.tk = tk ∧ d.bw = none ∧ d.jl = false ∧ (d.hw = none ∨ pu = 0 ∨ pu = 3) := by
  unfold callD at hd
  split at hd
  · split at hd
    · split at hd
      · obtain rfl := Option.some.inj hd; exact ⟨rfl, rfl, rfl, .inr (.inl rfl)⟩
      · cases hd
    · split at hd
      · split at hd
        · obtain rfl := Option.some.inj hd; exact ⟨rfl, rfl, rfl, .inl rfl⟩
        · cases hd
      · cases hd
    · split at hd
      · obtain rfl := Option.some.inj hd; exact ⟨rfl, rfl, rfl, .inr (.inr rfl)⟩
      · cases hd
    · split at hd
      · split at hd
        · obtain rfl := Option.some.inj hd; exact ⟨rfl, rfl, rfl, .inl rfl⟩
        · cases hd
      · cases hd
    · split at hd
      · split at hd
        · split at hd
          · obtain rfl := Option.some.inj hd; exact ⟨rfl, rfl, rfl, .inl rfl⟩
          · cases hd
        · cases hd
      · cases hd
    · split at hd
      · split at hd
        · obtain rfl := Option.some.inj hd; exact ⟨rfl, rfl, rfl, .inl rfl⟩
        · cases hd
      · cases hd
  · cases hd
theorem vw_splice {cs us : List TV} {o n : Nat} (h : cut cs o n = some us) : (TV.lbox (splice cs o (us.map TV.shr0))).vw = (TV.lbox cs).vw := by
  obtain ⟨h1, h2, h3⟩ := cut_some h
  simp only [TV.vw, TV.lbox.injEq]
  apply List.ext_getElem?
  intro j
  rw [List.getElem?_map, List.getElem?_map, splice_get (by simp; omega)]
  simp only [List.length_map, h2]
  split
  · rename_i hj
    rw [List.getElem?_map, h3, if_pos (by omega), show o + (j - o) = j by omega]
    cases cs[j]? with
    | none => rfl
    | some x => simp [shr0_shr0]
  · rfl
theorem delta_foot {call : CallF} {st : St} {x : TOp} {d : Dl} (hd : delta call st x = some d) : Foot x st d := by
  cases x with
  | mv tk x =>
    simp only [delta] at hd
    split at hd
    · rename_i h; obtain rfl := Option.some.inj hd; exact .take (fun i hi => tak_in h i hi) rfl (.inl rfl) (.inl rfl)
    · cases hd
  | lbx tk x =>
    simp only [delta] at hd
    split at hd
    · rename_i h
      split at hd
      · obtain rfl := Option.some.inj hd; exact .take (fun i hi => tak_in h i hi) rfl (.inr rfl) (.inl rfl)
      · cases hd
    · cases hd
  | lal z => simp only [delta] at hd; obtain rfl := Option.some.inj hd; exact .take (by simp) rfl (.inr rfl) (.inl rfl)
  | hbx tk x =>
    simp only [delta] at hd
    split at hd
    · rename_i h
      split at hd
      · obtain rfl := Option.some.inj hd; exact .take (fun i hi => tak_in h i hi) rfl (.inl rfl) (.inr rfl)
      · cases hd
    · cases hd
  | hal z => simp only [delta] at hd; obtain rfl := Option.some.inj hd; exact .take (by simp) rfl (.inl rfl) (.inr rfl)
  | mks ag sz bytes z l c =>
    simp only [delta] at hd
    repeat' split at hd
    all_goals first | (cases hd; done) | skip
    all_goals (obtain rfl := Option.some.inj hd; exact .take (by simp) rfl (.inl rfl) (.inr rfl))
  | cpy sz x y =>
    simp only [delta] at hd
    repeat' split at hd
    all_goals first | (cases hd; done) | skip
    all_goals (obtain rfl := Option.some.inj hd; exact .take (by simp) rfl (.inl rfl) (.inr rfl))
  | ldl tk ag n b p =>
    simp only [delta] at hd
    split at hd
    · split at hd
      · split at hd
        · rename_i cs hcs
          split at hd
          · rename_i vs hvs
            split at hd
            · rename_i htk
              obtain rfl := Option.some.inj hd
              subst htk
              refine ⟨by simp, ?_, fun _ => rfl, fun _ => rfl⟩
              intro b' u hu
              simp at hu
              obtain ⟨rfl, rfl⟩ := hu
              rw [hcs]
              exact ⟨rfl, .inl ⟨by simp [TOp.tk], vw_splice hvs⟩⟩
            · obtain rfl := Option.some.inj hd; exact .none rfl rfl rfl rfl
          · cases hd
        · cases hd
      · cases hd
    · cases hd
  | ldh tk ag n p =>
    simp only [delta] at hd
    split at hd
    · split at hd
      · split at hd
        · rename_i htk _ _ _ _
          obtain rfl := Option.some.inj hd
          subst htk
          exact .take (by simp) rfl (.inl rfl) (.inr rfl)
        · cases hd
      · obtain rfl := Option.some.inj hd; exact .none rfl rfl rfl rfl
    · cases hd
  | stl tk n b p x =>
    simp only [delta] at hd
    split at hd
    · rename_i h
      split at hd
      · split at hd
        · rename_i cs hcs
          split at hd
          · obtain rfl := Option.some.inj hd
            refine ⟨fun i hi => tak_in h i hi, ?_, fun _ => rfl, fun _ => rfl⟩
            intro b' u hu
            simp at hu
            obtain ⟨rfl, rfl⟩ := hu
            rw [hcs]
            exact ⟨rfl, .inr (by simp [TOp.bx])⟩
          · cases hd
        · cases hd
      · cases hd
    · cases hd
  | sth tk n p x =>
    simp only [delta] at hd
    split at hd
    · rename_i h
      split at hd
      · split at hd
        · split at hd
          · obtain rfl := Option.some.inj hd
            exact .take (fun i hi => tak_in h i hi) rfl (.inl rfl) (.inr rfl)
          · cases hd
        · cases hd
      · cases hd
    · cases hd
  | ext tk i x =>
    cases x with
    | c v => simp [delta] at hd
    | s j =>
      simp only [delta] at hd
      split at hd
      · rename_i vs hvs
        split at hd
        · rename_i v hv
          split at hd
          · rename_i htk
            obtain rfl := Option.some.inj hd
            subst htk
            refine ⟨by simp, ?_, fun _ => rfl, fun _ => rfl⟩
            intro b' u hu
            simp at hu
            obtain ⟨rfl, rfl⟩ := hu
            rw [hvs]
            refine ⟨rfl, .inl ⟨by simp [TOp.tk, tkS, Src.ss], ?_⟩⟩
            simp only [TV.vw, TV.shrT, TV.tup.injEq]
            apply List.ext_getElem?
            intro k
            rw [List.getElem?_map, List.getElem?_map, List.getElem?_set]
            by_cases hk : i = k
            · subst hk
              have hlt := (List.getElem?_eq_some_iff.1 hv).1
              simp [hlt, hv, shrA_shrA]
              have := (List.getElem?_eq_some_iff.1 hv).2
              rw [this]
            · simp [hk]
          · obtain rfl := Option.some.inj hd; exact .none rfl rfl rfl rfl
        · cases hd
      · cases hd
  | call pu f as =>
    simp only [delta] at hd
    split at hd
    · rename_i h
      obtain ⟨h1, h2, h3, h4⟩ := callD_foot hd
      exact .take (fun i hi => taks_in h i (h1 ▸ hi)) h2 (.inl h3) (h4.imp id (fun e => by rcases e with e | e <;> (subst e; rfl)))
    · cases hd
  | callv pu x as =>
    simp only [delta] at hd
    split at hd
    · rename_i h
      obtain ⟨h1, h2, h3, h4⟩ := callD_foot hd
      exact .take (fun i hi => taks_in h i (h1 ▸ hi)) h2 (.inl h3) (h4.imp id (fun e => by rcases e with e | e <;> (subst e; rfl)))
    · cases hd
  | app tk sz bytes x y =>
    simp only [delta] at hd
    split at hd
    · rename_i h _
      split at hd
      · obtain rfl := Option.some.inj hd; exact .take (fun i hi => tak_in h i hi) rfl (.inl rfl) (.inl rfl)
      · cases hd
    · rename_i h _
      split at hd
      · obtain rfl := Option.some.inj hd; exact .take (fun i hi => tak_in h i hi) rfl (.inl rfl) (.inl rfl)
      · cases hd
    · cases hd
  | bsr ag sz n z ps =>
    simp only [delta] at hd
    split at hd
    · obtain rfl := Option.some.inj hd; exact .take (by simp) rfl (.inl rfl) (.inr rfl)
    · cases hd
  | clr z x =>
    simp only [delta] at hd
    repeat' split at hd
    all_goals first | (cases hd; done) | skip
    all_goals (obtain rfl := Option.some.inj hd; exact .take (by simp) rfl (.inl rfl) (.inr rfl))
  | apr ag sz bytes x y =>
    simp only [delta] at hd
    split at hd
    · rename_i h _
      split at hd
      · split at hd <;> (obtain rfl := Option.some.inj hd; exact .take (fun i hi => by have := tak_in h i hi; simpa [TOp.tk, tkS] using this) rfl (.inl rfl) (.inr rfl))
      · cases hd
    · rename_i h _
      split at hd
      · split at hd
        · split at hd
          · obtain rfl := Option.some.inj hd; exact .take (fun i hi => by have := tak_in h i hi; simpa [TOp.tk, tkS] using this) rfl (.inl rfl) (.inr rfl)
          · split at hd <;> (obtain rfl := Option.some.inj hd; exact .take (fun i hi => by have := tak_in h i hi; simpa [TOp.tk, tkS] using this) rfl (.inl rfl) (.inr rfl))
        · cases hd
      · cases hd
    · cases hd
  | calk ks x as =>
    simp only [delta] at hd
    split at hd
    · rename_i h
      split at hd
      · rename_i d' hd'
        have hdd : d' = d := by (split at hd) <;> (split at hd) <;> first | exact Option.some.inj hd | cases hd
        subst hdd
        obtain ⟨h1, h2, h3, h4⟩ := callD_foot hd'
        exact .take (fun i hi => taks_in h i (h1 ▸ hi)) h2 (.inl h3) (.inr rfl)
      · cases hd
    · cases hd
  | cvx x =>
    simp only [delta] at hd
    split at hd
    · rename_i h; obtain rfl := Option.some.inj hd; exact .take (fun i hi => by have := tak_in h i hi; simpa [TOp.tk, tkS] using this) rfl (.inl rfl) (.inl rfl)
    · cases hd
  | _ =>
    simp only [delta] at hd
    repeat' split at hd
    all_goals first | (cases hd; done) | skip
    all_goals (obtain rfl := Option.some.inj hd; exact .none rfl rfl rfl rfl)
theorem dlt_foot {call : CallF} {st : St} {x : TOper} {d : Dl} (hd : dlt call x st = some d) : Foot x.op st d := by
  unfold dlt at hd
  split at hd
  · exact delta_foot hd
  · obtain rfl := Option.some.inj hd; exact .none rfl rfl rfl rfl
  · cases hd
theorem wanted_agr {t t' : List TV} {g : Option (Nat × Bool)} (h : ∀ i ∈ (match g with | some (g, _) => [g] | none => []), (sl t i).vw = (sl t' i).vw) : wanted t g = wanted t' g := by
  cases g with
  | none => rfl
  | some p =>
    obtain ⟨i, b⟩ := p
    have := h i (by simp)
    simp only [wanted]
    cases h1 : sl t i <;> cases h2 : sl t' i <;> rw [h1, h2] at this <;> simp [TV.vw, TV.shrT, TV.shrA, TV.shr0] at this ⊢ <;> first | (rw [this]; done) | skip
    rename_i c1 c2
    cases c1 <;> cases c2 <;> simp at this ⊢
theorem dlt_agr {call : CallF} {st st' : St} {x : TOper} (h : ∀ i ∈ x.rd, (sl st.t i).vw = (sl st'.t i).vw) (h2 : ∀ i ∈ x.op.tk ++ x.op.bx, sl st.t i = sl st'.t i) (h3 : x.op.hp ≠ 0 → st.h = st'.h ∧ st.keep = st'.keep) (h4 : ∀ i, isLb (sl st.t i) = isLb (sl st'.t i)) :
    dlt call x st = dlt call x st' := by
  unfold dlt
  rw [wanted_agr (t' := st'.t) (fun i hi => h i (List.mem_append_left _ hi)), delta_agr (st' := st') ⟨fun i hi => h i (List.mem_append_right _ hi), h2, h3, h4⟩]
/-- What becomes of a slot. -/
def upd (d : Dl) (dst : Option Nat) (j : Nat) (v : TV) : TV :=
  if dst = some j then d.v else match d.bw with
    | some (b, u) => if b = j then u else if j ∈ d.tk then v.shrT else v
    | none => if j ∈ d.tk then v.shrT else v
theorem downs_get (tk : List Nat) : ∀ (t : List TV) (j : Nat), (downs tk t)[j]? = (t[j]?).map (fun v => if j ∈ tk then v.shrT else v) := by
  induction tk with
  | nil => intro t j; simp [downs]
  | cons i tk ih =>
    intro t j
    show (downs tk (t.set i (sl t i).shrT))[j]? = _
    rw [ih, List.getElem?_set]
    by_cases hij : i = j
    · subst hij
      by_cases hl : i < t.length
      · simp only [hl, if_true, List.mem_cons, true_or, Option.map_some]
        have : t[i]? = some t[i] := by simp
        rw [this]
        have e : sl t i = t[i] := by simp [sl, hl]
        rw [e]
        simp only [Option.map_some, Option.some.injEq]
        split
        · exact shrT_shrT _
        · rfl
      · simp [hl, List.getElem?_eq_none (Nat.le_of_not_lt hl)]
    · have : j ≠ i := fun e => hij e.symm
      simp [hij, this]
theorem slots_get {d : Dl} {dst : Option Nat} {t : List TV} (hj : d.jl = false) (j : Nat) : (d.slots dst t)[j]? = (t[j]?).map (upd d dst j) := by
  have h1 : ∀ t : List TV, (match d.bw with | some (b, u) => t.set b u | none => t)[j]? = (t[j]?).map (fun v => match d.bw with | some (b, u) => if b = j then u else v | none => v) := by
    intro t
    cases d.bw with
    | none => simp
    | some p =>
      obtain ⟨b, u⟩ := p
      simp only [List.getElem?_set]
      by_cases hb : b = j
      · subst hb
        by_cases hl : b < t.length
        · simp [hl]
        · simp [hl, List.getElem?_eq_none (Nat.le_of_not_lt hl)]
      · simp [hb]
  have h2 : (match d.bw with | some (b, u) => (downs d.tk t).set b u | none => downs d.tk t)[j]? = (t[j]?).map (upd d none j) := by
    rw [h1, downs_get, Option.map_map]
    congr 1
  cases dst with
  | none => exact h2
  | some i =>
    show ((if d.jl then _ else (match d.bw with | some (b, u) => (downs d.tk t).set b u | none => downs d.tk t)).set i d.v)[j]? = _
    rw [hj]
    simp only [Bool.false_eq_true, if_false]
    rw [List.getElem?_set]
    by_cases hij : i = j
    · subst hij
      have hlen : (match d.bw with | some (b, u) => (downs d.tk t).set b u | none => downs d.tk t).length = t.length := by
        cases d.bw with
        | none => exact downs_len _ _
        | some p => simp [downs_len]
      rw [hlen]
      by_cases hl : i < t.length
      · simp [hl, upd]
      · simp [hl, List.getElem?_eq_none (Nat.le_of_not_lt hl)]
    · rw [if_neg hij, h2]
      congr 1
      funext v
      unfold upd
      simp [hij]
end Go.T
/- Two operations in either order; a region of which the order is drawn. -/
set_option linter.unusedVariables false
set_option linter.unusedSimpArgs false
set_option maxRecDepth 10000
namespace Go.T
theorem apart_spec {a b : List Nat} (h : apartL a b = true) : ∀ i ∈ a, i ∉ b := by
  unfold apartL at h
  intro i hi
  have := List.all_eq_true.1 h i hi
  simpa using this
structure Comm (x y : TOper) : Prop where
  jx : x.op.jl = false
  jy : y.op.jl = false
  wx : ∀ i ∈ x.wr, i ∉ y.rd ++ (y.op.tk ++ y.wr)
  wy : ∀ i ∈ y.wr, i ∉ x.rd ++ (x.op.tk ++ x.wr)
  tk : ∀ i ∈ x.op.tk, i ∉ y.op.tk
  hp : x.op.hp = 0 ∨ y.op.hp = 0 ∨ (x.op.hp = 1 ∧ y.op.hp = 1) ∨ ldKept x.op y.op = true ∨ ldKept y.op x.op = true
theorem comm_spec {x y : TOper} (h : comm x y = true) : Comm x y := by
  unfold comm at h
  simp only [Bool.and_eq_true, Bool.or_eq_true, Bool.not_eq_true', beq_iff_eq] at h
  obtain ⟨⟨⟨⟨⟨h1, h2⟩, h3⟩, h4⟩, h5⟩, h6⟩ := h
  refine ⟨h1, h2, apart_spec h3, apart_spec h4, apart_spec h5, ?_⟩
  rcases h6 with (((h6 | h6) | h6) | h6) | h6
  · exact .inl h6
  · exact .inr (.inl h6)
  · exact .inr (.inr (.inl h6))
  · exact .inr (.inr (.inr (.inl h6)))
  · exact .inr (.inr (.inr (.inr h6)))
theorem ldKept_hp {x y : TOp} (h : ldKept x y = true) : x.hp = 1 ∧ y.hp = 2 ∧ ldKept y x = false := by
  unfold ldKept at h
  split at h
  · exact ⟨rfl, rfl, rfl⟩
  · cases h
theorem Comm.symm {x y : TOper} (h : Comm x y) : Comm y x := ⟨h.jy, h.jx, h.wy, h.wx, fun i hi hh => h.tk i hh hi, by rcases h.hp with e | e | ⟨e, f⟩ | e | e <;> simp_all⟩
section
variable {call : CallF} {st : St}
theorem sl_slots {d : Dl} {dst : Option Nat} {t : List TV} (hj : d.jl = false) (j : Nat) : sl (d.slots dst t) j = if j < t.length then upd d dst j (sl t j) else .junk := by
  unfold sl
  simp only [List.getD_eq_getElem?_getD, slots_get hj]
  by_cases h : j < t.length
  · simp [h]
  · simp [h, List.getElem?_eq_none (Nat.le_of_not_lt h)]
theorem sl_out {t : List TV} {j : Nat} (h : ¬ j < t.length) : sl t j = .junk := by simp [sl, List.getElem?_eq_none (Nat.le_of_not_lt h)]
/-- What one operation leaves as it is. -/
theorem ap_agr {x y : TOper} (hc : Comm x y) {d : Dl} (hf : Foot x.op st d) (hok : okD st.t x.d d = true) :
    (∀ i ∈ y.rd, (sl st.t i).vw = (sl (d.ap x.d st).t i).vw) ∧ (∀ i ∈ y.op.tk ++ y.op.bx, sl st.t i = sl (d.ap x.d st).t i) ∧ (y.op.hp ≠ 0 → ldKept y.op x.op = false → st.h = (d.ap x.d st).h ∧ st.keep = (d.ap x.d st).keep) ∧ (∀ i, isLb (sl st.t i) = isLb (sl (d.ap x.d st).t i)) := by
  have hj := hf.jl hc.jx
  have hsl : ∀ j, sl (d.ap x.d st).t j = if j < st.t.length then upd d x.d j (sl st.t j) else .junk := fun j => sl_slots hj j
  have hdst : ∀ j, x.d = some j → j ∈ x.wr := fun j h => by simp [TOper.wr, h]
  have hbx : ∀ j, j ∈ x.op.bx → j ∈ x.wr := fun j h => by simp [TOper.wr, h]
  have hvw : ∀ j, j ∉ x.wr → (sl (d.ap x.d st).t j).vw = (sl st.t j).vw := by
    intro j hn
    rw [hsl]
    split
    · unfold upd
      rw [if_neg (fun h => hn (hdst j h))]
      split
      · rename_i b u hb
        split
        · rename_i hbj
          subst hbj
          rcases (hf.bw b u hb).2 with ⟨_, h⟩ | h
          · exact h
          · exact absurd (hbx b h) hn
        · split
          · exact vw_shrT _
          · rfl
      · split
        · exact vw_shrT _
        · rfl
    · rename_i h; rw [sl_out h]
  have heq : ∀ j, j ∉ x.wr → j ∉ x.op.tk → sl (d.ap x.d st).t j = sl st.t j := by
    intro j hn ht
    rw [hsl]
    split
    · unfold upd
      rw [if_neg (fun h => hn (hdst j h))]
      split
      · rename_i b u hb
        split
        · rename_i hbj
          subst hbj
          rcases (hf.bw b u hb).2 with ⟨h, _⟩ | h
          · exact absurd h ht
          · exact absurd (hbx b h) hn
        · rw [if_neg (fun h => ht (hf.tk j h))]
      · rw [if_neg (fun h => ht (hf.tk j h))]
    · rename_i h; rw [sl_out h]
  refine ⟨fun i hi => (hvw i (fun h => hc.wx i h (by simp [hi]))).symm, fun i hi => ?_, fun hy hk => ?_, fun i => ?_⟩
  · rcases List.mem_append.1 hi with hi | hi
    · exact (heq i (fun h => hc.wx i h (by simp [hi])) (fun h => hc.tk i h hi)).symm
    · have hw : i ∈ y.wr := by simp [TOper.wr, hi]
      exact (heq i (fun h => hc.wx i h (by simp [hw])) (fun h => hc.wy i hw (by simp [h]))).symm
  · have h2 : x.op.hp ≠ 2 := by
      rcases hc.hp with e | e | ⟨e, f⟩ | e | e
      · omega
      · exact absurd e hy
      · omega
      · have := (ldKept_hp e).1; omega
      · rw [hk] at e; cases e
    have := hf.hw h2
    simp [Dl.ap, this]
  · rw [hsl]
    split
    · unfold upd
      split
      · rename_i h
        rw [h] at hok
        simp [okD, hj] at hok
        rw [hok.1, hok.2]
      · split
        · rename_i b u hb
          split
          · rename_i hbj
            subst hbj
            exact (hf.bw b u hb).1.symm
          · split
            · exact (lb_shrT _).symm
            · rfl
        · split
          · exact (lb_shrT _).symm
          · rfl
    · rename_i h; rw [sl_out h]
theorem okD_agr {t t' : List TV} {dst : Option Nat} {d : Dl} (h : ∀ i, isLb (sl t i) = isLb (sl t' i)) : okD t dst d = okD t' dst d := by
  unfold okD
  cases dst with
  | none => rfl
  | some i => simp only [h i]
theorem ap_comm {x y : TOper} (hc : Comm x y) {dx dy : Dl} {stx sty : St} (hx : Foot x.op stx dx) (hy : Foot y.op sty dy) : dy.ap y.d (dx.ap x.d st) = dx.ap x.d (dy.ap y.d st) := by
  have jx := hx.jl hc.jx
  have jy := hy.jl hc.jy
  have hslots : dy.slots y.d (dx.slots x.d st.t) = dx.slots x.d (dy.slots y.d st.t) := by
    apply List.ext_getElem?
    intro j
    rw [slots_get jy, slots_get jx, slots_get jx, slots_get jy]
    cases st.t[j]? with
    | none => rfl
    | some v =>
      simp only [Option.map_some, Option.some.injEq]
      have id_of : ∀ {z : TOper} {dz : Dl} {sz : St}, Foot z.op sz dz → j ∉ z.wr → j ∉ z.op.tk → ∀ v, upd dz z.d j v = v := by
        intro z dz sz hz hn ht v
        unfold upd
        rw [if_neg (fun h => hn (by simp [TOper.wr, h]))]
        split
        · rename_i b u hb
          split
          · rename_i hbj
            subst hbj
            rcases (hz.bw b u hb).2 with ⟨h, _⟩ | h
            · exact absurd h ht
            · exact absurd (by simp [TOper.wr, h]) hn
          · rw [if_neg (fun h => ht (hz.tk j h))]
        · rw [if_neg (fun h => ht (hz.tk j h))]
      by_cases hjx : j ∈ x.wr ∨ j ∈ x.op.tk
      · have h1 : j ∉ y.wr ∧ j ∉ y.op.tk := by
          rcases hjx with h | h
          · have := hc.wx j h
            simp only [List.mem_append, not_or] at this
            exact ⟨this.2.2, this.2.1⟩
          · exact ⟨fun hh => hc.wy j hh (by simp [h]), hc.tk j h⟩
        rw [id_of hy h1.1 h1.2, id_of hy h1.1 h1.2]
      · rw [not_or] at hjx
        rw [id_of hx hjx.1 hjx.2, id_of hx hjx.1 hjx.2]
  have hnone : dx.hw = none ∨ dy.hw = none := by
    by_cases h : x.op.hp = 2
    · right
      refine hy.hw (fun h2 => ?_)
      rcases hc.hp with e | e | ⟨e, f⟩ | e | e
      · omega
      · omega
      · omega
      · have := (ldKept_hp e).1; omega
      · have := (ldKept_hp e).1; omega
    · exact .inl (hx.hw h)
  unfold Dl.ap
  simp only [hslots]
  rcases hnone with h | h <;> simp [h]
theorem keptB_get {t : List TV} {h h' : Heap} : ∀ {ks : List Src} {r : Src}, keptB t h h' ks = true → ks.any (Src.beq r) = true → ∀ i o, ad t r = .ptr i o → i < h.length ∧ i < h'.length ∧ h'.getD i [] = h.getD i [] := by
  intro ks
  induction ks with
  | nil => intro r _ hr; simp at hr
  | cons p ks ih =>
    intro r hk hr i o hi
    simp only [keptB, Bool.and_eq_true] at hk
    simp only [List.any_cons, Bool.or_eq_true] at hr
    rcases hr with hr | hr
    · have : r = p := by
        cases r <;> cases p <;> simp [Src.beq] at hr
        rw [hr]
      subst this
      have h1 := hk.1
      rw [hi] at h1
      simp only [Bool.and_eq_true, decide_eq_true_eq] at h1
      exact ⟨h1.1.1, h1.1.2, TV.beqs_eq _ _ h1.2⟩
    · exact ih hk.2 hr i o hi
theorem kept_core {st st' : St} {ag : Bool} {n : Nat} {r p : Src} {ks : List Src} (R : ∀ i ∈ r.ss ++ p.ss, (sl st.t i).vw = (sl st'.t i).vw) (hk : ks.any (Src.beq r) = true) (hkept : keptB st.t st.h st'.h ks = true) : (match ad st'.t r, ad st'.t p with
    | .ptr i _, .ptr j _ => if i = j then match getH st.h (ad st'.t p) n with
      | some vs => some ({ v := pack ag (vs.map TV.shrK) } : Dl)
      | none => none
      else none
    | _, _ => none) = match ad st'.t r, ad st'.t p with
    | .ptr i _, .ptr j _ => if i = j then match getH st'.h (ad st'.t p) n with
      | some vs => some { v := pack ag (vs.map TV.shrK) }
      | none => none
      else none
    | _, _ => none := by
  rcases ad_agr (t := st.t) (t' := st'.t) (x := r) (fun i hi => R i (by simp [hi])) with e | ⟨e1, e2⟩
  · cases hr : ad st'.t r <;> try rfl
    rename_i i o
    cases hp : ad st'.t p <;> try rfl
    rename_i j o2
    simp only
    split
    · rename_i hij
      subst hij
      obtain ⟨k1, k2, k3⟩ := keptB_get hkept hk i o (by rw [e, hr])
      have hl : live st.h i = live st'.h i := by
        unfold live
        rw [List.getElem?_eq_getElem k1, List.getElem?_eq_getElem k2]
        have : st'.h[i] = st.h[i] := by
          have := k3
          simp only [List.getD_eq_getElem?_getD, List.getElem?_eq_getElem k1, List.getElem?_eq_getElem k2, Option.getD_some] at this
          exact this
        rw [this]
      simp only [getH, hl]
    · rfl
  · generalize ad st'.t r = B at e2 ⊢
    cases B <;> first | (simp [nad] at e2; done) | rfl
/-- A look into a box that the other one, a call, leaves as it is. -/
theorem kept_agr {x y : TOper} (hc : Comm x y) {d : Dl} (hd : dlt call x st = some d) (hok : okD st.t x.d d = true) (hk : ldKept y.op x.op = true) : dlt call y st = dlt call y (d.ap x.d st) := by
  obtain ⟨a1, a2, a3, a4⟩ := ap_agr hc (dlt_foot hd) hok
  unfold dlt
  rw [wanted_agr (t' := (d.ap x.d st).t) (fun i hi => a1 i (List.mem_append_left _ hi))]
  have key : delta call st y.op = delta call (d.ap x.d st) y.op := by
    obtain ⟨yd, yo, yg⟩ := y
    obtain ⟨xd, xo, xg⟩ := x
    simp only at *
    cases yo <;> try (simp [ldKept] at hk; done)
    rename_i ag n r p
    cases xo <;> try (simp [ldKept] at hk; done)
    rename_i ks f as
    simp only [ldKept] at hk
    have R : ∀ i ∈ r.ss ++ p.ss, (sl st.t i).vw = (sl (d.ap xd st).t i).vw := fun i hi => a1 i (by simp only [TOper.rd, TOp.rd]; exact List.mem_append_right _ hi)
    simp only [delta]
    refine Eq.trans (ldr_agr (st := st) (st' := d.ap xd st) (h := st.h) (ag := ag) (n := n) R) ?_
    -- the heap: the box is as it was
    unfold dlt at hd
    split at hd
    · simp only [delta] at hd
      split at hd
      · rename_i f' cs vs tk hx hvs
        split at hd
        · rename_i d' hd'
          have hd2 : (if keptB st.t st.h (d'.ap xd st).h ks = true then some d' else none) = some d := hd
          split at hd2
          · rename_i hkept
            obtain rfl := Option.some.inj hd2
            exact kept_core R hk hkept
          · cases hd2
        · cases hd
      · cases hd
    · obtain rfl := Option.some.inj hd
      rfl
    · cases hd
  rw [key]
theorem step_comm {x y : TOper} (hc : Comm x y) {s1 s2 : St} (h1 : step call x st = some s1) (h2 : step call y s1 = some s2) : ∃ s1', step call y st = some s1' ∧ step call x s1' = some s2 := by
  unfold step at h1
  split at h1
  · rename_i dx hdx
    split at h1
    · rename_i hokx
      obtain rfl := Option.some.inj h1
      unfold step at h2
      split at h2
      · rename_i dy hdy
        split at h2
        · rename_i hoky
          obtain rfl := Option.some.inj h2
          have fx := dlt_foot hdx
          obtain ⟨a1, a2, a3, a4⟩ := ap_agr hc fx hokx
          have hdy' : dlt call y st = some dy := by
            cases hk : ldKept y.op x.op with
            | false => rw [dlt_agr a1 a2 (fun h => a3 h hk) a4]; exact hdy
            | true => rw [kept_agr hc hdx hokx hk]; exact hdy
          have hoky' : okD st.t y.d dy = true := by rw [okD_agr a4]; exact hoky
          have fy := dlt_foot hdy'
          obtain ⟨b1, b2, b3, b4⟩ := ap_agr hc.symm fy hoky'
          refine ⟨dy.ap y.d st, ?_, ?_⟩
          · unfold step; simp only [hdy']; rw [if_pos hoky']
          · unfold step
            have hdx' : dlt call x (dy.ap y.d st) = some dx := by
              cases hk : ldKept x.op y.op with
              | false => rw [← dlt_agr b1 b2 (fun h => b3 h hk) b4]; exact hdx
              | true => rw [← kept_agr hc.symm hdy' hoky' hk]; exact hdx
            rw [hdx']
            simp only
            rw [← okD_agr b4, if_pos hokx, ap_comm hc fx fy]
        · cases h2
      · cases h2
    · cases h1
  · cases h1
/-- One that waits for none of those before it may go first. -/
theorem steps_first {x : TOper} : ∀ (l : List TOper) (r : List TOper) (st s' : St), (∀ y ∈ l, Comm y x) → steps call (l ++ x :: r) st = some s' → ∃ s1, step call x st = some s1 ∧ steps call (l ++ r) s1 = some s' := by
  intro l
  induction l with
  | nil =>
    intro r st s' _ h
    simp only [List.nil_append, steps] at h
    split at h
    · rename_i s1 h1; exact ⟨s1, h1, h⟩
    · cases h
  | cons y l ih =>
    intro r st s' hl h
    simp only [List.cons_append, steps] at h
    split at h
    · rename_i s0 h0
      obtain ⟨s1, k1, k2⟩ := ih r s0 s' (fun z hz => hl z (by simp [hz])) h
      obtain ⟨s0', e1, e2⟩ := step_comm (hl y (by simp)) h0 k1
      refine ⟨s0', e1, ?_⟩
      simp only [List.cons_append, steps, e2]
      exact k2
    · cases h
end
end Go.T
