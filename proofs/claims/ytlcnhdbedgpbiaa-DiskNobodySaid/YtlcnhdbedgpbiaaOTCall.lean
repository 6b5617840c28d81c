/- Calls of the small machine. -/
import Derived.Test.YtlcnhdbedgpbiaaOTFrz
set_option linter.unusedVariables false
set_option linter.unusedSimpArgs false
set_option maxRecDepth 10000
namespace Go.T
/-- Every call that answers is one of the program, and the program answers so. -/
def CallSound (P : Program) (call : CallF) : Prop :=
  ∀ (f : Nat) (as : List TV) (h : Heap) (r : Ret), call f as h = some r → h.length ≤ r.h.length ∧ (∃ fn, P.funcs[f]? = some fn ∧ fn.body.isSome = true ∧ (fn.name == "runtime.NumGoroutine") = false) ∧
    ∀ (w : World) (g : Gh) (ow : Ow) (vs : Array Value), as.length = vs.size →
      (∀ (k : Nat) (x : TV) (v : Value), as[k]? = some x → vs[k]? = some v → argOk x = true ∧ VR w g h.length x v ∧ Owns w g ow [0, k] x v) →
      (∀ (i : Nat) cs, h[i]? = some cs → BoxD w g h.length ow [1, i] cs (g.nu i)) → (∀ b q, ow b = some q → b < w.heap.size) →
      Calls P f vs w (fun e w' => ∃ v, e = .returned v ∧ CallPost w g ow h.length r v w')
theorem run_enter {P : Program} {f : FuncId} {fn : Func} (hf : P.funcs[f]? = some fn) (hname : (fn.name == "runtime.NumGoroutine") = false) (hb : fn.body.isSome = true) (args : Array Value) (w : World) : (callFunc f args).run P w = .ok (.enter f args) w := by
  obtain ⟨c, hc⟩ := Option.isSome_iff_exists.1 hb
  unfold callFunc
  have hn : ¬ fn.name = "runtime.NumGoroutine" := by simpa using hname
  simp [program, Sem.run, hf, hn, hc]
section
variable {P : Program} {w : World} {g : Gh} {ow : Ow} {st : St} {a : Act} {o : Oper}
theorem VR.plain {m : Nat} {x : TV} {v : Value} (h : VR w g m x v) : plainV x = true := by cases h <;> rfl
theorem downs_shr {m : Nat} {j : Nat} {v : Value} : ∀ (tk : List Nat) (t : List TV), j ∈ tk → VR w g m (sl t j) v → ∃ y, sl (downs tk t) j = y.shrT ∧ VR w g m y v := by
  intro tk
  induction tk with
  | nil => intro t h; cases h
  | cons i tk ih =>
    intro t hj hv
    have hset : sl (t.set i (sl t i).shrT) j = if i = j ∧ j < t.length then (sl t i).shrT else sl t j := sl_set _ _ _ _
    have hv' : VR w g m (sl (t.set i (sl t i).shrT) j) v := by
      rw [hset]; split
      · rename_i h; rw [h.1]; exact hv.shrT
      · exact hv
    by_cases hm : j ∈ tk
    · exact ih _ hm hv'
    · have hji : i = j := by
        rcases List.mem_cons.1 hj with h | h
        · exact h.symm
        · exact absurd h hm
      subst hji
      show ∃ y : TV, sl (downs tk (t.set i (sl t i).shrT)) i = y.shrT ∧ VR w g m y v
      rw [downs_keep (fun k hk (hki : k = i) => hm (hki ▸ hk)), hset]
      split
      · exact ⟨_, rfl, hv⟩
      · rename_i hn
        have hlt : ¬ i < t.length := fun h => hn ⟨rfl, h⟩
        have : sl t i = .junk := by simp [sl, List.getElem?_eq_none (Nat.le_of_not_lt hlt)]
        rw [this]
        exact ⟨.junk, rfl, .junk _⟩
theorem downs_len (tk : List Nat) : ∀ (t : List TV), (downs tk t).length = t.length := by
  induction tk with
  | nil => intro t; rfl
  | cons i tk ih => intro t; show (downs tk (t.set i _)).length = _; rw [ih]; simp

/-- The places, as the callee sees them. -/
def inR (hand : Bool) (pos : Nat → Option Nat) : List Nat → List Nat
  | 0 :: j :: p => match pos j with
    | some k => 0 :: k :: p
    | none => 2 :: 0 :: j :: p
  | 1 :: p => if hand then 1 :: p else 2 :: 1 :: p
  | r => 2 :: r
/-- And back. -/
def outR (hand : Bool) (d : Nat) : List Nat → List Nat
  | 2 :: q => q
  | 3 :: p => 0 :: d :: p
  | 1 :: p => if hand then 1 :: p else 9 :: p
  | r => 9 :: r
theorem inR_two {hand : Bool} {pos : Nat → Option Nat} (q : List Nat) : inR hand pos (2 :: q) = 2 :: 2 :: q := by simp [inR]
theorem inR_inv {hand : Bool} {pos : Nat → Option Nat} {r q : List Nat} (h : inR hand pos r = 2 :: 2 :: q) : r = 2 :: q := by
  unfold inR at h
  split at h
  · split at h <;> simp at h
  · split at h <;> simp at h
  · simpa using h
theorem outR_inv {hand : Bool} {d : Nat} {r q : List Nat} (h : outR hand d r = 2 :: q) : r = 2 :: 2 :: q := by
  unfold outR at h
  split at h
  · rw [h]
  · simp at h
  · split at h <;> simp at h
  · simp at h
theorem call_core {call : CallF} (hcs : CallSound P call) (hI : Inv w g ow st a) (hand : Bool) {f : Nat} {vs : List TV} {r : Ret} (hcall : call f vs (if hand then st.h else []) = some r) (hhid : hand = false → r.h = [] ∧ TV.lts 0 vs = true)
    {args : Array Value} {tk : List Nat} {pos : Nat → Option Nat} (hlen : vs.length = args.size) (hok : vs.all argOk = true)
    (hargs : ∀ (k : Nat) (x : TV) (v : Value), vs[k]? = some x → args[k]? = some v → VR w g st.h.length x v ∧ ((∀ w' g' ow' q, Owns w' g' ow' q x v) ∨ ∃ i, pos i = some k ∧ Owns w g ow [0, i] x v))
    (hpos : ∀ i k, pos i = some k → i ∈ tk) (htk : ∀ i ∈ tk, plainV (sl st.t i) = true) (dd : Nat) (kk : Bool) :
    Calls P f args w (fun e w' => ∃ v, e = .returned v ∧ ∃ g' ow', Stp w g ow st.h.length w' g' ow' ∧ VR w' g' (if hand then r.h else st.h).length r.r v ∧ Owns w' g' ow' [0, dd] r.r v ∧
      Inv w' g' ow' { st with t := downs tk st.t, h := if hand then r.h else st.h, keep := kk } a) := by
  obtain ⟨hl, _, hc⟩ := hcs f vs _ r hcall
  have hargs2 : ∀ (k : Nat) (x : TV) (v : Value), vs[k]? = some x → args[k]? = some v → argOk x = true ∧ VR w g (if hand then st.h else ([] : Heap)).length x v ∧ Owns w g (rnO ow (inR hand pos)) [0, k] x v := by
    intro k x v hx hv
    obtain ⟨h1, h2⟩ := hargs k x v hx hv
    refine ⟨List.all_eq_true.1 hok x (List.mem_of_getElem? hx), ?_, ?_⟩
    · cases hand
      · exact h1.down' (lts_get (hhid rfl).2 hx)
      · exact h1
    · rcases h2 with h2 | ⟨i, hp, h2⟩
      · exact h2 _ _ _ _
      · exact h2.move (fun b p hb => ⟨rfl, rfl, by rw [rnO_at hb]; simp [inR, hp]⟩)
  have hfars : ∀ (b : Nat) (r' : List Nat), ow b = some r' → inR hand pos r' = 2 :: r' → Far (rnO ow (inR hand pos) b) := fun b r' h1 h2 => .inr ⟨r', by rw [rnO_at h1, h2]⟩
  refine Calls.mono (hc w g (rnO ow (inR hand pos)) args hlen hargs2 ?_ (rnO_bd hI.bd)) ?_
  · intro i cs hi
    cases hand
    · simp at hi
    · have hb := hI.box i cs hi
      intro hdd
      obtain ⟨us, ty, fr, r1, r2, r3, r4, r5, r6⟩ := hb hdd
      refine ⟨us, ty, fr, r1, r2, r3, r4, by rw [rnO_at r5]; simp [inR], fun x y v hx hv => ?_⟩
      obtain ⟨c1, c2, c3⟩ := r6 x y v hx hv
      exact ⟨c1, c2, c3.move (fun b p hb => ⟨rfl, rfl, by rw [rnO_at hb]; simp [inR]⟩)⟩
  · rintro e w' ⟨v, rfl, g', ow', hs, hv, ho, hb, hbd⟩
    refine ⟨v, rfl, ⟨g'.imm, if hand then g'.nu else g.nu⟩, rnO ow' (outR hand dd), ?_⟩
    have hkeep : ∀ (b : Nat) (r' : List Nat), ow b = some r' → inR hand pos r' = 2 :: r' → w'.heap[b]? = w.heap[b]? ∧ g'.imm b = g.imm b ∧ rnO ow' (outR hand dd) b = ow b := by
      intro b r' h1 h2
      obtain ⟨k1, k2, k3⟩ := hs.far b (hI.bd b r' h1) (hfars b r' h1 h2)
      refine ⟨k1, k2, ?_⟩
      have : ow' b = some (2 :: r') := by rw [k3, rnO_at h1, h2]
      rw [rnO_at this, h1]; rfl
    have hS : Stp w g ow st.h.length w' ⟨g'.imm, if hand then g'.nu else g.nu⟩ (rnO ow' (outR hand dd)) := by
      refine ⟨hs.os, hs.tape, hs.output, hs.size, hs.cell, hs.imm, fun i hi => ?_, hs.row, fun b hlt hf => ?_, fun b q hq => ?_⟩
      · cases hand
        · rfl
        · exact hs.nu i hi
      · rcases hf with hf | ⟨q, hf⟩
        · obtain ⟨k1, k2, k3⟩ := hs.far b hlt (.inl (by simp [rnO, hf]))
          refine ⟨k1, k2, ?_⟩
          have : ow' b = none := by rw [k3]; simp [rnO, hf]
          simp [rnO, this, hf]
        · exact hkeep b _ hf (inR_two q)
      · obtain ⟨r', hr', hq'⟩ : ∃ r', ow' b = some r' ∧ outR hand dd r' = 2 :: q := by
          unfold rnO at hq
          cases hb' : ow' b with
          | none => rw [hb'] at hq; cases hq
          | some r' => rw [hb'] at hq; exact ⟨r', rfl, by simpa using hq⟩
        have hr2 := outR_inv hq'
        subst hr2
        obtain ⟨k1, k2⟩ := hs.out b _ hr'
        refine ⟨k1, ?_⟩
        cases hb' : ow b with
        | none => simp [rnO, hb'] at k2
        | some s =>
          have : inR hand pos s = 2 :: 2 :: q := by simpa [rnO, hb'] using k2
          rw [inR_inv this]
    have hvv : VR w' ⟨g'.imm, if hand then g'.nu else g.nu⟩ (if hand then r.h else st.h).length r.r v := by
      cases hand
      · obtain ⟨h0, _⟩ := hhid rfl
        rw [h0] at hv
        by_cases hj : r.r = .junk
        · rw [hj]; exact .junk _
        · exact hv.down (fun i hi => absurd hi (Nat.not_lt_zero i)) (hv.lt hj) (Nat.zero_le _)
      · exact hv
    refine ⟨hS, hvv, ho.move (fun b p hb' => ⟨rfl, rfl, by rw [rnO_at hb']; simp [outR]⟩), ?_⟩
    have hm : st.h.length ≤ (if hand then r.h else st.h).length := by
      cases hand
      · exact Nat.le_refl _
      · exact hl
    have hslot : ∀ j, j ∉ tk → ∀ b p, ow b = some ([0, j] ++ p) → w'.heap[b]? = w.heap[b]? ∧ g'.imm b = g.imm b ∧ rnO ow' (outR hand dd) b = ow b := by
      intro j hj b p hbp
      refine hkeep b _ hbp ?_
      have : pos j = none := by
        cases hp : pos j with
        | none => rfl
        | some k => exact absurd (hpos j k hp) hj
      simp [inR, this]
    refine ⟨hI.defers, by simpa [downs_len] using hI.len, fun j => ?_, fun i cs hi => ?_, rnO_bd hbd, Nat.le_trans hI.base hm⟩
    · have hj := hI.slot j
      show SlotR _ _ _ _ (downs tk st.t) a.tmps j (sl (downs tk st.t) j) _
      by_cases hjt : j ∈ tk
      · obtain ⟨h1, h2⟩ := hI.plain (htk j hjt)
        obtain ⟨y, hy, hyv⟩ := downs_shr tk st.t hjt h1
        rw [hy]
        have := (hyv.mono hS hm)
        exact (SlotR.plain (plain_shrT _ this.plain)).2 ⟨this.shrT, this.owns_shrT⟩
      · rw [downs_keep (fun k hk (hki : k = j) => hjt (hki ▸ hk))]
        have hkj := hslot j hjt
        generalize sl st.t j = x at hj ⊢
        cases x <;> first | exact ⟨hj.1.mono hS hm, hj.2.mono hkj⟩ | skip
        case lbox cs =>
          obtain ⟨b, e1, e2⟩ := hj
          exact ⟨b, e1, e2.mono hS hm hkj⟩
        case lp b off =>
          intro cs hcs
          by_cases hbt : b ∈ tk
          · obtain ⟨y, hy, hyv⟩ := downs_shr tk st.t hbt (hI.plain (htk b hbt)).1
            have h5 := plain_shrT _ hyv.plain
            rw [← hy, hcs] at h5
            cases h5
          · rw [downs_keep (fun k hk (hki : k = b) => hbt (hki ▸ hk))] at hcs
            exact hj cs hcs
    · cases hand
      · exact (hI.box i cs hi).mono hS (Nat.le_refl _) (fun b p hbp => hkeep b _ hbp (by simp [inR]))
      · exact fun hdd => (hb i cs hi hdd).reow (fun b p hbp => by rw [rnO_at hbp]; simp [outR])
theorem box_lts {h : Heap} (hb : ∀ (i : Nat) cs, h[i]? = some cs → BoxD w g h.length ow [1, i] cs (g.nu i)) {i : Nat} (hi : i < h.length) : TV.lts h.length (h.getD i []) = true := by
  have hget : h[i]? = some h[i] := by simp
  rw [show h.getD i [] = h[i] by simp [hi]]
  by_cases hd : dead h[i] = true
  · unfold dead at hd
    split at hd
    · rename_i heq
      rw [heq]; rfl
    · cases hd
  · obtain ⟨row, ty, fr, r1, r2, r3, r4, r5, r6⟩ := hb i _ hget (by simpa using hd)
    rw [lts_iff]
    intro x hxm
    obtain ⟨j, hj⟩ := List.getElem?_of_mem hxm
    have hjl : j < row.size := by have := (List.getElem?_eq_some_iff.1 hj).1; omega
    obtain ⟨c1, c2, c3⟩ := r6 j x row[j] hj (by simp [hjl])
    exact c2.lt (isCell_njunk c1)
theorem trim_len {fz : Bool} {base : Nat} {r : Ret} (h : base ≤ r.h.length) : base ≤ (trim fz base r).h.length := by
  unfold trim
  simp only
  repeat' split
  all_goals first | exact h | (simp; omega)
/-- Calls whose new rows are frozen. -/
def trimC (call : CallF) : CallF := fun f as h => (call f as h).map (trim true h.length)
theorem trim_sound {call : CallF} (hcs : CallSound P call) (hord : OrdC call) : CallSound P (trimC call) := by
  intro f as h r hr
  obtain ⟨r0, hr0, rfl⟩ := Option.map_eq_some_iff.1 hr
  obtain ⟨h1, h2, h3⟩ := hcs f as h r0 hr0
  refine ⟨trim_len h1, h2, fun w g ow vs ha hargs hbox hbd => Calls.mono (h3 w g ow vs ha hargs hbox hbd) ?_⟩
  rintro e w' ⟨v, rfl, hp⟩
  refine ⟨v, rfl, (trim_post (fz := true) hp h1 (fun hk i hi => .inl ?_)).2⟩
  exact (hord f as h r0 hr0).2 hk i hi _ hi (box_lts hbox hi)
end
end Go.T
