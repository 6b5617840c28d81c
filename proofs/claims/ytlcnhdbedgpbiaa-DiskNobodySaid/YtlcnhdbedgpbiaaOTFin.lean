/- What a frame of the small machine answers, its model answers. -/
import Derived.Test.YtlcnhdbedgpbiaaOTExec
set_option linter.unusedVariables false
set_option linter.unusedSimpArgs false
set_option maxRecDepth 10000
namespace Go.T
def rSlot : TRes → Nat
  | .tmp i => i
  | .cell i _ _ => i
def rDrop : TRes → Bool
  | .tmp _ => false
  | .cell _ ag _ => !ag
def resPos (k0 : Nat) : List TRes → Nat → Option (Nat × Bool)
  | [], _ => none
  | r :: rs, i => if rSlot r = i then some (k0, rDrop r) else resPos (k0 + 1) rs i
def rPlace (single : Bool) (k : Nat) : List Nat := if single then [3] else [3, k]
def resR (single : Bool) (rs : List TRes) : List Nat → List Nat
  | 0 :: i :: p => match resPos 0 rs i with
    | some (k, d) => rPlace single k ++ (if d then p.drop 1 else p)
    | none => 9 :: i :: p
  | r => r
theorem distinct_cons (r : TRes) (rs : List TRes) (seen : List Nat) : slotsDistinct (r :: rs) seen = (!seen.contains (rSlot r) && slotsDistinct rs (rSlot r :: seen)) := by cases r <;> rfl
theorem pos_of : ∀ (rs : List TRes) (seen : List Nat) (k0 k : Nat) (r : TRes), slotsDistinct rs seen = true → rs[k]? = some r → rSlot r ∉ seen ∧ resPos k0 rs (rSlot r) = some (k0 + k, rDrop r) := by
  intro rs
  induction rs with
  | nil => intro seen k0 k r _ h; simp at h
  | cons r0 rs ih =>
    intro seen k0 k r hd h
    rw [distinct_cons] at hd
    simp at hd
    cases k with
    | zero =>
      simp at h
      subst h
      exact ⟨hd.1, by simp [resPos]⟩
    | succ k =>
      simp at h
      obtain ⟨h1, h2⟩ := ih (rSlot r0 :: seen) (k0 + 1) k r hd.2 h
      simp at h1
      refine ⟨h1.2, ?_⟩
      rw [resPos, if_neg (fun e => h1.1 e.symm), h2]
      congr 2; omega
theorem resR_ren (single : Bool) (rs : List TRes) : (∀ q, resR single rs (2 :: q) = 2 :: q) ∧ ∀ r q, resR single rs r = 2 :: q → r = 2 :: q := by
  refine ⟨fun q => rfl, fun r q h => ?_⟩
  unfold resR at h
  split at h
  · split at h
    · unfold rPlace at h
      split at h <;> simp at h
    · simp at h
  · exact h
section
variable {P : Program} {w : World} {g : Gh} {ow : Ow} {st : St} {a : Act}
theorem run_lv {t : TypeId} {ag : Bool} {n : Nat} (hl : lay P t ag n = true) {b o : Nat} {vs : List Value} (hr : w.rangeAt b o vs) (hn : vs.length = n) : (loadVar t (at_ b o)).run P w = .ok (packV ag vs) w := by
  obtain ⟨h1, h2, h3⟩ := lay_of hl
  obtain ⟨ti, h4, h5⟩ := info_of h1
  cases ag with
  | true =>
    have hc : (loadCells (at_ b o) vs.length).run P w = .ok vs.toArray w := run_loadCells_list (P := P) w (at_ b o) vs (fun j v hv => by rw [at_add]; exact hr j v hv)
    rw [hn] at hc
    simp [loadVar, h2, sizeOf, typeInfo, h4, h5, hc, packV]
  | false =>
    have hn1 : n = 1 := h3.resolve_left (by simp)
    match vs, hn with
    | [v], _ =>
      have h0 := hr 0 v rfl
      rw [Nat.add_zero] at h0
      have h0' : w.cell? (at_ b o) = some v := h0
      simp [loadVar, h2, packV, h0']
    | [], h => simp at h; omega
    | _ :: _ :: _, h => simp at h; omega
def resRun (a : Act) : ResultVar → Sem Value
  | .tmp t => pure (a.tmps.getD t undef)
  | .cell b t => do loadVar t (← asAddr (a.tmps.getD b undef))
/-- A result alone. -/
theorem res_one (hI : Inv w g ow st a) {rv : ResultVar} {r : TRes} (hc : chkR P [rv] [r] = true) {v : TV} (h : resOf st r = some v) :
    ∃ u, (resRun a rv).run P w = .ok u w ∧ VR w g st.h.length v u ∧ plainV v = true ∧ argOk v = true ∧
      ∀ (ow' : Ow) q, (∀ b p, ow b = some ([0, rSlot r] ++ p) → ow' b = some (q ++ (if rDrop r then p.drop 1 else p))) → Owns w g ow' q v u := by
  cases r with
  | tmp i =>
    cases rv <;> simp [chkR] at hc
    have hc' := hc.symm
    subst hc'
    simp only [resOf] at h
    have hp : plainV (sl st.t i) = true := by
      split at h
      · cases h
      · cases h
      · rename_i h1 h2
        generalize sl st.t i = x at *
        cases x <;> first | rfl | simp_all [plainV]
    obtain ⟨h1, h2⟩ := hI.plain hp
    have hv : v = sl st.t i ∧ argOk (sl st.t i) = true := by
      split at h
      · cases h
      · cases h
      · split at h
        · rename_i hok; simp at h; exact ⟨h.symm, hok⟩
        · cases h
    obtain ⟨rfl, hok⟩ := hv
    refine ⟨_, rfl, h1, hp, hok, fun ow' q hk => h2.move (fun b p hb => ⟨rfl, rfl, ?_⟩)⟩
    have := hk b p hb
    simpa [rDrop] using this
  | cell i ag n =>
    cases rv <;> simp [chkR] at hc
    obtain ⟨hc', hl⟩ := hc
    have hc' := hc'.symm
    subst hc'
    rename_i t
    have h3 := (lay_of hl).2.2
    simp only [resOf] at h
    have hsl := hI.slot i
    split at h
    · rename_i cs hcs
      rw [hcs] at hsl
      obtain ⟨b, hb, hbox⟩ := hsl
      split at h
      · rename_i us hus
        simp at h
        obtain ⟨vs, r1, r2, r3, r4⟩ := hbox.cut hus
        obtain ⟨p1, p2, p3⟩ := VR.pack (w := w) (g := g) (m := st.h.length) (ag := ag) (us := us) (vs := vs) (by omega) (h3.imp id (fun hh => by omega)) (fun j x v hx hv => ⟨(r4 j x v hx hv).1, (r4 j x v hx hv).2.1⟩)
        subst h
        refine ⟨_, ?_, p1, p2, p3, fun ow' q hk => ?_⟩
        · simp only [resRun, hb, asAddr, Sem.run_bind, Sem.run_pure, Result.andThen_ok]
          exact run_lv hl r1 r2
        · refine owns_pack (by omega) (h3.imp id (fun hh => by omega)) (fun j x v hx hv => ?_)
          obtain ⟨c1, c2, c3⟩ := r4 j x v hx hv
          refine c3.moveCell c1 (fun b hbo => ⟨rfl, rfl, ?_⟩)
          have := hk b [0 + j] (by simpa [rSlot] using hbo)
          rw [this]
          cases ag <;> simp [rDrop]
      · cases h
    · rename_i b off hcs
      rw [hcs] at hsl
      obtain ⟨hvr, _⟩ := hsl
      generalize hq : a.tmps.getD i undef = q at hvr
      cases hvr with
      | ptr _ _ hlt =>
        split at h
        · rename_i us hus
          simp at h
          simp only [getH] at hus
          split at hus
          · rename_i cs hcs2
            obtain ⟨vs, r1, r2, r3, r4⟩ := (hI.box b cs (live_some hcs2).1 (live_some hcs2).2).cut hus
            have hsh : ∀ (j : Nat) (x : TV) (v : Value), (us.map TV.shr0)[j]? = some x → vs[j]? = some v → x.isCell = true ∧ x.noOwn = true ∧ VR w g st.h.length x v := by
              intro j x v hx hv
              obtain ⟨y, hy, rfl⟩ := getElem?_map_some hx
              obtain ⟨c1, c2, c3⟩ := r4 j y v hy hv
              exact ⟨by rw [shr0_isCell]; exact c1, shr0_noOwn y, c2.shr0⟩
            obtain ⟨p1, p2, p3⟩ := VR.pack (w := w) (g := g) (m := st.h.length) (ag := ag) (us := us.map TV.shr0) (vs := vs) (by simp; omega) (h3.imp id (fun hh => by simp; omega)) (fun j x v hx hv => ⟨(hsh j x v hx hv).1, (hsh j x v hx hv).2.2⟩)
            subst h
            refine ⟨_, ?_, p1, p2, p3, fun ow' q hk => owns_pack (by simp; omega) (h3.imp id (fun hh => by simp; omega)) (fun j x v hx hv => owns_cell (hsh j x v hx hv).1 (hsh j x v hx hv).2.1)⟩
            simp only [resRun, hq, asAddr, Sem.run_bind, Sem.run_pure, Result.andThen_ok]
            exact run_lv hl r1 r2
          · cases hus
        · cases h
    · cases h
theorem chkR_cons {rv : ResultVar} {rvs : List ResultVar} {r : TRes} {rs : List TRes} (h : chkR P (rv :: rvs) (r :: rs) = true) : chkR P [rv] [r] = true ∧ chkR P rvs rs = true := by
  cases rv <;> cases r <;> simp [chkR] at h ⊢ <;> simp_all
/-- All results. -/
theorem res_all (hI : Inv w g ow st a) : ∀ (rvs : List ResultVar) (rs : List TRes) (vs : List TV), chkR P rvs rs = true → ress st rs = some vs →
    ∃ us : List Value, (rvs.mapM (resRun a)).run P w = .ok us w ∧ us.length = vs.length ∧ vs.length = rs.length ∧ ∀ (k : Nat) (x : TV) (u : Value), vs[k]? = some x → us[k]? = some u → VR w g st.h.length x u ∧ argOk x = true ∧
      ∃ r, rs[k]? = some r ∧ ∀ (ow' : Ow) q, (∀ b p, ow b = some ([0, rSlot r] ++ p) → ow' b = some (q ++ (if rDrop r then p.drop 1 else p))) → Owns w g ow' q x u := by
  intro rvs
  induction rvs with
  | nil =>
    intro rs vs hc h
    cases rs <;> simp [chkR] at hc
    simp [ress] at h
    subst h
    exact ⟨[], rfl, rfl, rfl, by simp⟩
  | cons rv rvs ih =>
    intro rs vs hc h
    cases rs with
    | nil => cases rv <;> simp [chkR] at hc
    | cons r rs =>
      obtain ⟨c1, c2⟩ := chkR_cons hc
      simp only [ress] at h
      split at h
      · rename_i v vs' hv hvs
        obtain rfl := Option.some.inj h
        obtain ⟨u, e1, e2, e3, e4, e5⟩ := res_one hI c1 hv
        obtain ⟨us, f1, f2, f3, f4⟩ := ih rs vs' c2 hvs
        refine ⟨u :: us, ?_, by simp [f2], by simp [f3], ?_⟩
        · simp only [List.mapM_cons, Sem.run_bind, e1, f1, Result.andThen_ok, Sem.run_pure]
        · intro k x y hx hy
          cases k with
          | zero =>
            simp at hx hy
            subst hx; subst hy
            exact ⟨e2, e4, r, rfl, e5⟩
          | succ k =>
            simp at hx hy
            exact f4 k x y hx hy
      · cases h
def valOf (us : List Value) : Value := match us with | [u] => u | us => .tuple us.toArray
theorem run_results {fn : Func} {us : List Value} (h : (fn.results.toList.mapM (resRun a)).run P w = .ok us w) : (results fn a.tmps).run P w = .ok (valOf us) w := by
  unfold results
  have this : (fn.results.mapM (resRun a)).run P w = .ok us.toArray w := by
    generalize fn.results = rs at h
    obtain ⟨l⟩ := rs
    simp only [List.mapM_toArray]
    have h' : (l.mapM (resRun a)).run P w = .ok us w := h
    simp [h']
  have key : ∀ f : ResultVar → Sem Value, (∀ x, f x = resRun a x) → (fn.results.mapM f).run P w = .ok us.toArray w := by
    intro f hf
    rw [show f = resRun a from funext hf]
    exact this
  rw [Sem.run_bind, key _ (by intro x; cases x <;> rfl)]
  simp only [Result.andThen_ok, Sem.run_pure]
  congr 1
  match us with
  | [] => rfl
  | [u] => rfl
  | _ :: _ :: _ => simp [valOf]
end
end Go.T
