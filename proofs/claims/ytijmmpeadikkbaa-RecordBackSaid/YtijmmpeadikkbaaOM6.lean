/- A part of the proofs: the small machine. -/
import Derived.Test.YtijmmpeadikkbaaOM5
/- Rows that are frozen when they are handed out; boxes that are given up. -/
set_option linter.unusedVariables false
set_option linter.unusedSimpArgs false
set_option maxRecDepth 10000
namespace Go.T
/-- A call's answer, as a proof tells it. -/
def CallPost (w : World) (g : Gh) (ow : Ow) (m : Nat) (r : Ret) (v : Value) (w' : World) : Prop :=
  ∃ g' ow', Stp w g ow m w' g' ow' ∧ VR w' g' r.h.length r.r v ∧ Owns w' g' ow' [3] r.r v ∧ (∀ (i : Nat) cs, r.h[i]? = some cs → BoxD w' g' r.h.length ow' [1, i] cs (g'.nu i)) ∧ (∀ b q, ow' b = some q → b < w'.heap.size)
def HOrd (h h' : Heap) : Prop := ∀ i, i < h.length → ∀ b, i < b → TV.lts b (h.getD i []) = true → TV.lts b (h'.getD i []) = true
def OrdC (call : CallF) : Prop := ∀ f as h r, call f as h = some r → h.length ≤ r.h.length ∧ (r.kp = false → HOrd h r.h)
section
variable {w : World} {g : Gh} {ow : Ow} {h : Heap} {base : Nat}
/-- What frozen rows leave as it is. -/
structure Frz (w : World) (g : Gh) (ow : Ow) (h : Heap) (base : Nat) (g' : Gh) (ow' : Ow) : Prop where
  stp : Stp w g ow h.length w g' ow'
  oth : ∀ c r, ow c = some (3 :: r) → g'.imm c = g.imm c ∧ ow' c = ow c
  box : ∀ (i : Nat) cs, i < base → h[i]? = some cs → BoxD w g' h.length ow' [1, i] cs (g'.nu i)
  bd : ∀ b q, ow' b = some q → b < w.heap.size
theorem Frz.refl (hb : ∀ (i : Nat) cs, h[i]? = some cs → BoxD w g h.length ow [1, i] cs (g.nu i)) (hbd : ∀ b q, ow b = some q → b < w.heap.size) : Frz w g ow h base g ow :=
  ⟨Stp.refl w g ow _ hbd, fun _ _ _ => ⟨rfl, rfl⟩, fun i cs _ hi => hb i cs hi, hbd⟩
theorem rowC_nil {x : TV} (hx : rowC base x = []) : frzC h base x = x := by
  cases x <;> try rfl
  rename_i ag sz i o n
  simp only [rowC] at hx
  split at hx
  · cases hx
  · rename_i hb
    simp only [frzC]
    split
    · rw [if_neg (fun hh => hb hh.2.1)]
    · rfl
theorem frz_cell (hb : ∀ (i : Nat) cs, h[i]? = some cs → BoxD w g h.length ow [1, i] cs (g.nu i)) (hbd : ∀ b q, ow b = some q → b < w.heap.size) {x : TV} {u : Value} (q : List Nat) (hv : VR w g h.length x u) (ho : Owns w g ow (3 :: q) x u) (hok : x.isCell = true) :
    ∃ g' ow', Frz w g ow h base g' ow' ∧ VR w g' h.length (frzC h base x) u ∧ (frzC h base x).isCell = true ∧ Owns w g' ow' (3 :: q) (frzC h base x) u := by
  by_cases hne : frzC h base x = x
  · rw [hne]; exact ⟨g, ow, Frz.refl hb hbd, hv, hok, ho⟩
  cases x <;> try exact absurd rfl hne
  rename_i ag sz i o n
  simp only [frzC] at hne ⊢
  split at hne
  · rename_i cs hcs
    split at hne
    · rename_i hc
      rw [if_pos hc]
      obtain ⟨rfl, hbi, hlen, hel, hz, hag⟩ := hc
      obtain ⟨hcs, hdd⟩ := live_some hcs
      cases hv with
      | asl _ _ _ _ _ c hi hc hm hrow =>
        obtain ⟨row, ty, fr, r1, r2, r3, r4, r5, r6⟩ := hb i cs hcs hdd
        obtain ⟨row', ty', fr', r1', r2'⟩ := hrow
        have hrr : row' = row := by unfold RowOf at r1 r1'; rw [r1] at r1'; simp at r1'; exact r1'.1.symm
        subst hrr
        obtain ⟨b, hbb⟩ : ∃ b, b = g.nu i := ⟨_, rfl⟩
        have hs : Stp w g ow h.length w ⟨fun c => if c = b then n * sz else g.imm c, g.nu⟩ (fun c => if c = b then some (3 :: q) else ow c) := by
          refine ⟨rfl, rfl, rfl, Nat.le_refl _, fun _ _ _ _ => rfl, fun c _ => ?_, fun _ _ => rfl, fun b vs ty fr hh => ⟨vs, fr, hh, rfl⟩, fun c hc hf => ?_, fun c q' hq => ?_⟩
          · show g.imm c ≤ if c = b then n * sz else g.imm c
            split
            · rename_i hcb; rw [hcb, hbb, r4]; exact Nat.zero_le _
            · exact Nat.le_refl _
          · have hcb : c ≠ b := by
              rintro rfl
              rw [hbb, r5] at hf
              rcases hf with hf | ⟨q, hf⟩ <;> simp at hf
            simp [hcb]
          · change (if c = b then some (3 :: q) else ow c) = _ at hq
            split at hq
            · simp at hq
            · exact ⟨hbd c _ hq, hq⟩
        have hnb : ∀ (c : Nat) (r : List Nat), ow c = some r → (∀ p, r ≠ [1, i] ++ p) → c ≠ b := by
          rintro c r hr hh rfl
          rw [hbb, r5] at hr
          exact hh [] (by simpa using (Option.some.inj hr).symm)
        refine ⟨_, _, ⟨hs, fun c r hr => ?_, fun j cs' hj hcs' => ?_, fun c q' hq => ?_⟩, ?_, rfl, ?_⟩
        · have : c ≠ b := hnb c _ hr (by simp)
          simp [this]
        · refine (hb j cs' hcs').mono hs (Nat.le_refl _) (fun c p hcp => ?_)
          have : c ≠ b := hnb c _ hcp (by intro p'; simp; intro hh; omega)
          simp [this]
        · change (if c = b then some (3 :: q) else ow c) = _ at hq
          split at hq
          · rename_i hcb; rw [hcb, hbb]; exact hbd _ _ r5
          · exact hbd c q' hq
        · have g1 := (regroup_spec ag sz n (cs.map TV.shr0)).1
          have hcells := regroup_cells (ag := ag) (sz := sz) (n := n) (cs := cs.map TV.shr0) hz hag (by simpa using hlen) (fun k x hk hx => by
            refine List.all_eq_true.1 hel x (List.mem_of_getElem? (i := k) ?_)
            rw [List.map_take, List.getElem?_take, if_pos hk, hx])
          have hflat : Flat w g h.length sz (regroup ag sz n (cs.map TV.shr0)) (row'.toList.take (n * sz)) := by
            refine ⟨by simp [g1]; omega, fun i' e j x he hx => ?_⟩
            obtain ⟨d1, d2, d3⟩ := hcells i' e he
            obtain ⟨e1, e2, e3⟩ := d3 j x hx
            obtain ⟨y, hy, rfl⟩ := getElem?_map_some e2
            have hlt := row_idx d1 e1
            have hrl : i' * sz + j < row'.size := by omega
            obtain ⟨c1, c2, c3⟩ := r6 _ y row'[i' * sz + j] hy (by simp [hrl])
            refine ⟨e3, row'[i' * sz + j], ?_, c2.shr0⟩
            rw [List.getElem?_take, if_pos hlt]
            simp [hrl]
          have hw : okW sz (regroup ag sz n (cs.map TV.shr0)) = true := by
            refine List.all_eq_true.2 (fun e he => ?_)
            obtain ⟨i', hi'⟩ := List.getElem?_of_mem he
            simp [(hcells i' e hi').2.1]
          have hvr := VR.ofFlat (w := w) (g := ⟨fun c => if c = b then n * sz else g.imm c, g.nu⟩) (m := h.length) (.own sz false) (b := b) (off := 0) (c := c) (hflat.mono hs (Nat.le_refl _)) hw hz (by rw [g1]; exact hc) (by rw [g1]; exact hm) (fun k u hk => by
            have hkl : k < n * sz := by
              have := (List.getElem?_eq_some_iff.1 hk).1
              simp at this; omega
            refine ⟨by simpa using hkl, ?_⟩
            rw [Nat.zero_add, hbb, cell_of_row r1]
            rw [List.getElem?_take, if_pos hkl] at hk
            simpa using hk)
          rw [g1, hbb] at hvr
          rw [hbb]
          exact hvr
        · intro p sz' s' l' A' n' c' hsb
          cases hsb
          rw [hbb]
          exact ⟨hz, fun _ => ⟨_, rfl, by simp, row', ty, fr, r1, by simp, by simpa using Nat.le_of_eq r2', r3⟩⟩
    · exact absurd rfl hne
  · exact absurd rfl hne
/-- .. and a list of such. -/
theorem frz_list {f : TV → TV} {rows : TV → List Nat} {ok : TV → Bool} (hid : ∀ x, rows x = [] → f x = x)
    (hE : ∀ (q : List Nat) (x : TV) (u : Value), VR w g h.length x u → Owns w g ow (3 :: q) x u → ok x = true → (rows x).length ≤ 1 → ∃ g' ow', Frz w g ow h base g' ow' ∧ VR w g' h.length (f x) u ∧ ok (f x) = true ∧ Owns w g' ow' (3 :: q) (f x) u)
    (hb : ∀ (i : Nat) cs, h[i]? = some cs → BoxD w g h.length ow [1, i] cs (g.nu i)) (hbd : ∀ b q, ow b = some q → b < w.heap.size) (Q : List Nat) (xs : List TV) (us : List Value) (hl : xs.length = us.length) (hone : (xs.flatMap rows).length ≤ 1)
    (hv : ∀ (j : Nat) (x : TV) (u : Value), xs[j]? = some x → us[j]? = some u → VR w g h.length x u ∧ Owns w g ow (3 :: (Q ++ [j])) x u ∧ ok x = true) :
    ∃ g' ow', Frz w g ow h base g' ow' ∧ ∀ (j : Nat) (x : TV) (u : Value), (xs.map f)[j]? = some x → us[j]? = some u → VR w g' h.length x u ∧ Owns w g' ow' (3 :: (Q ++ [j])) x u ∧ ok x = true := by
  by_cases hall : ∀ (j : Nat) (x : TV), xs[j]? = some x → rows x = []
  · refine ⟨g, ow, Frz.refl hb hbd, fun j x u hx hu => ?_⟩
    obtain ⟨y, hy, rfl⟩ := getElem?_map_some hx
    rw [hid y (hall j y hy)]
    exact hv j y u hy hu
  · have hall : ∃ (j : Nat) (x : TV), xs[j]? = some x ∧ rows x ≠ [] := by
      apply Classical.byContradiction
      intro hno
      exact hall (fun j x hx => Classical.byContradiction (fun hr => hno ⟨j, x, hx, hr⟩))
    obtain ⟨j, x, hx, hr⟩ := hall
    have others : ∀ (k : Nat) (y : TV), k ≠ j → xs[k]? = some y → rows y = [] := by
      intro k y hkj hy
      apply Classical.byContradiction
      intro hry
      have key : ∀ (l : List TV) (a b : Nat) (x y : TV), a < b → l[a]? = some x → l[b]? = some y → rows x ≠ [] → rows y ≠ [] → 2 ≤ (l.flatMap rows).length := by
        intro l
        induction l with
        | nil => intro a b x y _ h; simp at h
        | cons z l ih =>
          intro a b x y hab h1 h2 hx hy
          rw [List.flatMap_cons, List.length_append]
          cases b with
          | zero => omega
          | succ b =>
            rw [List.getElem?_cons_succ] at h2
            have hyl : 1 ≤ (l.flatMap rows).length := by
              have hm := List.mem_of_getElem? h2
              cases hry : rows y with
              | nil => exact absurd hry hy
              | cons c cs =>
                have : c ∈ l.flatMap rows := List.mem_flatMap.2 ⟨y, hm, by rw [hry]; simp⟩
                exact List.length_pos_of_mem this
            cases a with
            | zero =>
              simp at h1
              subst h1
              have : 1 ≤ (rows z).length := by
                cases hz : rows z with
                | nil => exact absurd hz hx
                | cons c cs => simp
              omega
            | succ a =>
              rw [List.getElem?_cons_succ] at h1
              have := ih a b x y (by omega) h1 h2 hx hy
              omega
      rcases Nat.lt_or_gt_of_ne hkj with hlt | hgt
      · have := key xs k j y x hlt hy hx hry hr; omega
      · have := key xs j k x y hgt hx hy hr hry; omega
    have hjl : j < us.length := by have := (List.getElem?_eq_some_iff.1 hx).1; omega
    obtain ⟨v1, v2, v3⟩ := hv j x us[j] hx (by simp)
    obtain ⟨g', ow', hf, w1, w2, w3⟩ := hE (Q ++ [j]) x us[j] v1 v2 v3 (by
      have hm := List.mem_of_getElem? hx
      obtain ⟨l1, l2, rfl⟩ := List.append_of_mem hm
      rw [List.flatMap_append, List.flatMap_cons, List.length_append, List.length_append] at hone
      omega)
    refine ⟨g', ow', hf, fun k y u hy hu => ?_⟩
    obtain ⟨z, hz, rfl⟩ := getElem?_map_some hy
    by_cases hkj : k = j
    · subst hkj
      rw [hx] at hz
      obtain rfl := Option.some.inj hz
      have : u = us[k] := by rw [List.getElem?_eq_getElem hjl] at hu; exact (Option.some.inj hu).symm
      subst this
      exact ⟨w1, w3, w2⟩
    · rw [hid z (others k z hkj hz)]
      obtain ⟨z1, z2, z3⟩ := hv k z u hz hu
      refine ⟨z1.mono hf.stp (Nat.le_refl _), z2.mono (fun c p hc => ?_), z3⟩
      obtain ⟨o1, o2⟩ := hf.oth c _ hc
      exact ⟨rfl, o1, o2⟩
theorem frz_arg (hb : ∀ (i : Nat) cs, h[i]? = some cs → BoxD w g h.length ow [1, i] cs (g.nu i)) (hbd : ∀ b q, ow b = some q → b < w.heap.size) {x : TV} {u : Value} (q : List Nat) (hr : (rowA base x).length ≤ 1) (hv : VR w g h.length x u) (ho : Owns w g ow (3 :: q) x u) (hok : argOk x = true) :
    ∃ g' ow', Frz w g ow h base g' ow' ∧ VR w g' h.length (frzA h base x) u ∧ argOk (frzA h base x) = true ∧ Owns w g' ow' (3 :: q) (frzA h base x) u := by
  rcases argOk_cells hok with ⟨cs, rfl, hcs⟩ | hcell
  · cases hv with
    | agg _ us hl hc hrr =>
      obtain ⟨g', ow', f1, f2⟩ := frz_list (f := frzC h base) (rows := rowC base) (ok := TV.isCell) (fun x hx => rowC_nil hx) (fun q x u a b c _ => frz_cell hb hbd q a b c) hb hbd q cs us.toList (by simpa using hl) hr (fun j x u hx hu => by
        have hu' : us[j]? = some u := by simpa using hu
        refine ⟨hrr j x u hx hu', fun p sz s l A n c hsub => ?_, hc j x u hx hu'⟩
        have := ho (j :: p) sz s l A n c (.agg _ _ j x u p _ _ hx hu' hsub)
        simpa using this)
      refine ⟨g', ow', f1, ?_, ?_, ?_⟩
      · refine .agg _ _ (by simpa using hl) (fun j x v hx hv => (f2 j x v hx (by simpa using hv)).2.2) (fun j x v hx hv => (f2 j x v hx (by simpa using hv)).1)
      · simp only [frzA, argOk, List.all_eq_true]
        intro x hx
        obtain ⟨j, hj⟩ := List.getElem?_of_mem hx
        have hjl : j < us.size := by rw [← hl]; have := (List.getElem?_eq_some_iff.1 hj).1; simpa using this
        exact (f2 j x us[j] hj (by simp [hjl])).2.2
      · intro p sz s l A n c hsub
        cases hsub with
        | agg _ _ k x v p _ _ hx hv hsub =>
          have := (f2 k x v hx (by simpa using hv)).2.1 p sz s l A n c hsub
          simpa using this
  · have e : frzA h base x = frzC h base x ∧ argOk (frzC h base x) = (frzC h base x).isCell := by
      cases x <;> first | exact ⟨rfl, rfl⟩ | (simp [TV.isCell] at hcell; done) | skip
      all_goals
        refine ⟨rfl, ?_⟩
        simp only [frzC]
        split
        · split <;> rfl
        · rfl
    rw [e.1, e.2]
    obtain ⟨g', ow', f1, f2, f3, f4⟩ := frz_cell (base := base) hb hbd q hv ho hcell
    exact ⟨g', ow', f1, f2, f3, f4⟩
theorem rowA_nil {x : TV} (hx : rowA base x = []) : frzA h base x = x := by
  have key := @rowC_nil h base x
  cases x with
  | agg cs =>
    simp only [frzA]
    congr 1
    simp only [rowA, List.flatMap_eq_nil_iff] at hx
    rw [List.map_congr_left (fun y hy => rowC_nil (hx y hy))]
    simp
  | _ => exact key hx
/-- An answer's value, frozen. -/
theorem frz_val (hb : ∀ (i : Nat) cs, h[i]? = some cs → BoxD w g h.length ow [1, i] cs (g.nu i)) (hbd : ∀ b q, ow b = some q → b < w.heap.size) {x : TV} {u : Value} (hr : (rowT base x).length ≤ 1) (hv : VR w g h.length x u) (ho : Owns w g ow [3] x u) (hj : x ≠ .junk) :
    ∃ g' ow', Frz w g ow h base g' ow' ∧ VR w g' h.length (frzT h base x) u ∧ Owns w g' ow' [3] (frzT h base x) u := by
  have arg : argOk x = true → (∀ vs, x ≠ .tup vs) → ∃ g' ow', Frz w g ow h base g' ow' ∧ VR w g' h.length (frzT h base x) u ∧ Owns w g' ow' [3] (frzT h base x) u := by
    intro hok hnt
    have e : frzT h base x = frzA h base x ∧ rowT base x = rowA base x := by
      cases x <;> first | exact ⟨rfl, rfl⟩ | exact absurd rfl (hnt _)
    rw [e.1]
    rw [e.2] at hr
    obtain ⟨g', ow', f1, f2, _, f4⟩ := frz_arg (base := base) hb hbd [] hr hv ho hok
    exact ⟨g', ow', f1, f2, f4⟩
  cases x with
  | tup vs =>
    cases hv with
    | tup _ us hl hc hrr =>
      obtain ⟨g', ow', f1, f2⟩ := frz_list (f := frzA h base) (rows := rowA base) (ok := argOk) (fun x hx => rowA_nil hx) (fun q x u a b c d => frz_arg hb hbd q d a b c) hb hbd [] vs us.toList (by simpa using hl) hr (fun j x u hx hu => by
        have hu' : us[j]? = some u := by simpa using hu
        refine ⟨hrr j x u hx hu', fun p sz s l A n c hsub => ?_, hc j x u hx hu'⟩
        have := ho (j :: p) sz s l A n c (.tup _ _ j x u p _ _ hx hu' hsub)
        simpa using this)
      refine ⟨g', ow', f1, ?_, ?_⟩
      · refine .tup _ _ (by simpa using hl) (fun j x v hx hv => (f2 j x v hx (by simpa using hv)).2.2) (fun j x v hx hv => (f2 j x v hx (by simpa using hv)).1)
      · intro p sz s l A n c hsub
        cases hsub with
        | tup _ _ k x v p _ _ hx hv hsub =>
          have := (f2 k x v hx (by simpa using hv)).2.1 p sz s l A n c hsub
          simpa using this
  | junk => exact absurd rfl hj
  | agg cs =>
    refine arg ?_ (by simp)
    cases hv with
    | agg _ us hl hc hrr =>
      simp only [argOk, List.all_eq_true]
      intro x hx
      obtain ⟨j, hj⟩ := List.getElem?_of_mem hx
      have hjl : j < us.size := by rw [← hl]; exact (List.getElem?_eq_some_iff.1 hj).1
      exact hc j x us[j] hj (by simp [hjl])
  | lp => cases hv
  | lbox => cases hv
  | _ => exact arg rfl (by simp)
/-- A call's answer, without the boxes that were made since. -/
theorem trim_post {w0 : World} {g0 : Gh} {ow0 : Ow} {fz : Bool} {r : Ret} {v : Value} (hp : CallPost w0 g0 ow0 base r v w) (hbase : base ≤ r.h.length) (hlow : r.kp = false → ∀ i, i < base → TV.lts base (r.h.getD i []) = true ∨ dead (r.h.getD i []) = true) :
    base ≤ (trim fz base r).h.length ∧ CallPost w0 g0 ow0 base (trim fz base r) v w := by
  unfold trim
  split
  · exact ⟨hbase, hp⟩
  split
  · exact ⟨hbase, hp⟩
  rename_i hkp
  obtain ⟨g1, ow1, h1, h2, h3, h4, h5⟩ := hp
  simp only
  have fin : ∀ (u : TV) (g' : Gh) (ow' : Ow), Frz w g1 ow1 r.h base g' ow' → VR w g' r.h.length u v → Owns w g' ow' [3] u v → TV.lt base u = true →
      base ≤ (⟨u, r.h.take base, false⟩ : Ret).h.length ∧ CallPost w0 g0 ow0 base ⟨u, r.h.take base, false⟩ v w := by
    intro u g' ow' hf k1 k2 k3
    have hbl : (r.h.take base).length = base := by simp; omega
    refine ⟨by rw [hbl]; exact Nat.le_refl _, g', ow', h1.trans (hf.stp) hbase, ?_, k2, ?_, hf.bd⟩
    · show VR w g' (r.h.take base).length _ _
      rw [hbl]; exact k1.down' k3
    · intro i cs hi hdd
      show BoxR w g' (r.h.take base).length _ _ _ _
      rw [hbl]
      have hib : i < base := by have := (List.getElem?_eq_some_iff.1 hi).1; simp at this; omega
      have hi2 : r.h[i]? = some cs := by
        have hi' : (r.h.take base)[i]? = some cs := hi
        rw [List.getElem?_take, if_pos hib] at hi'
        exact hi'
      obtain ⟨row, ty, fr, r1, r2, r3, r4, r5, r6⟩ := hf.box i cs hib hi2 hdd
      refine ⟨row, ty, fr, r1, r2, r3, r4, r5, fun j x v hx hv => ?_⟩
      obtain ⟨c1, c2, c3⟩ := r6 j x v hx hv
      refine ⟨c1, c2.down' ?_, c3⟩
      have := hlow (by simpa using hkp) i hib
      rw [show r.h.getD i [] = cs by simp [hi2]] at this
      rcases this with this | this
      · exact lts_get this hx
      · rw [hdd] at this; cases this
  split
  · rename_i hz
    simp only [Bool.and_eq_true, decide_eq_true_eq] at hz
    split
    · rename_i hlt
      have hj : r.r ≠ .junk := by
        intro hj
        rw [hj] at hlt
        simp [frzT, frzA, frzC, TV.lt] at hlt
      obtain ⟨g', ow', f1, f2, f3⟩ := frz_val (base := base) h4 h5 hz.2 h2 h3 hj
      exact fin _ g' ow' f1 f2 f3 hlt
    · exact ⟨hbase, g1, ow1, h1, h2, h3, h4, h5⟩
  · split
    · rename_i hlt
      exact fin _ g1 ow1 (Frz.refl h4 h5) h2 h3 hlt
    · exact ⟨hbase, g1, ow1, h1, h2, h3, h4, h5⟩
end
end Go.T
/- Calls of the small machine. -/
set_option linter.unusedVariables false
set_option linter.unusedSimpArgs false
set_option maxRecDepth 10000
namespace Go.T
/-- Every call that answers is one of the program, and the program answers so. -/
def CallSound (P : Program) (call : CallF) : Prop :=
  ∀ (f : Nat) (as : List TV) (h : Heap) (r : Ret), call f as h = some r → h.length ≤ r.h.length ∧ (∃ fn, P.funcs[f]? = some fn ∧ fn.body.isSome = true ∧ (fn.name == "runtime.NumGoroutine") = false) ∧
    ∀ (w : World) (g : Gh) (ow : Ow) (vs : Array Value), as.length = vs.size →
      (∀ (k : Nat) (x : TV) (v : Value), as[k]? = some x → vs[k]? = some v → argOk x = true ∧ VR w g h.length x v ∧ Owns w g ow [0, k] x v) →
      (∀ (i : Nat) cs, h[i]? = some cs → BoxD w g h.length ow [1, i] cs (g.nu i)) → (∀ b q, ow b = some q → b < w.heap.size) →
      Calls P f vs w (fun e w' => ∃ v, e = .returned v ∧ CallPost w g ow h.length r v w')
theorem run_enter {P : Program} {f : FuncId} {fn : Func} (hf : P.funcs[f]? = some fn) (hname : (fn.name == "runtime.NumGoroutine") = false) (hb : fn.body.isSome = true) (args : Array Value) (w : World) : (callFunc f args).run P w = .ok (.enter f args) w := by
  obtain ⟨c, hc⟩ := Option.isSome_iff_exists.1 hb
  unfold callFunc
  have hn : ¬ fn.name = "runtime.NumGoroutine" := by simpa using hname
  simp [program, Sem.run, hf, hn, hc]
section
variable {P : Program} {w : World} {g : Gh} {ow : Ow} {st : St} {a : Act} {o : Oper}
theorem VR.plain {m : Nat} {x : TV} {v : Value} (h : VR w g m x v) : plainV x = true := by cases h <;> rfl
theorem downs_shr {m : Nat} {j : Nat} {v : Value} : ∀ (tk : List Nat) (t : List TV), j ∈ tk → VR w g m (sl t j) v → ∃ y, sl (downs tk t) j = y.shrT ∧ VR w g m y v := by
  intro tk
  induction tk with
  | nil => intro t h; cases h
  | cons i tk ih =>
    intro t hj hv
    have hset : sl (t.set i (sl t i).shrT) j = if i = j ∧ j < t.length then (sl t i).shrT else sl t j := sl_set _ _ _ _
    have hv' : VR w g m (sl (t.set i (sl t i).shrT) j) v := by
      rw [hset]; split
      · rename_i h; rw [h.1]; exact hv.shrT
      · exact hv
    by_cases hm : j ∈ tk
    · exact ih _ hm hv'
    · have hji : i = j := by
        rcases List.mem_cons.1 hj with h | h
        · exact h.symm
        · exact absurd h hm
      subst hji
      show ∃ y : TV, sl (downs tk (t.set i (sl t i).shrT)) i = y.shrT ∧ VR w g m y v
      rw [downs_keep (fun k hk (hki : k = i) => hm (hki ▸ hk)), hset]
      split
      · exact ⟨_, rfl, hv⟩
      · rename_i hn
        have hlt : ¬ i < t.length := fun h => hn ⟨rfl, h⟩
        have : sl t i = .junk := by simp [sl, List.getElem?_eq_none (Nat.le_of_not_lt hlt)]
        rw [this]
        exact ⟨.junk, rfl, .junk _⟩
theorem downs_len (tk : List Nat) : ∀ (t : List TV), (downs tk t).length = t.length := by
  induction tk with
  | nil => intro t; rfl
  | cons i tk ih => intro t; show (downs tk (t.set i _)).length = _; rw [ih]; simp

/-- The places, as the callee sees them. -/
def inR (hand : Bool) (pos : Nat → Option Nat) : List Nat → List Nat
  | 0 :: j :: p => match pos j with
    | some k => 0 :: k :: p
    | none => 2 :: 0 :: j :: p
  | 1 :: p => if hand then 1 :: p else 2 :: 1 :: p
  | r => 2 :: r
/-- And back. -/
def outR (hand : Bool) (d : Nat) : List Nat → List Nat
  | 2 :: q => q
  | 3 :: p => 0 :: d :: p
  | 1 :: p => if hand then 1 :: p else 9 :: p
  | r => 9 :: r
theorem inR_two {hand : Bool} {pos : Nat → Option Nat} (q : List Nat) : inR hand pos (2 :: q) = 2 :: 2 :: q := by simp [inR]
theorem inR_inv {hand : Bool} {pos : Nat → Option Nat} {r q : List Nat} (h : inR hand pos r = 2 :: 2 :: q) : r = 2 :: q := by
  unfold inR at h
  split at h
  · split at h <;> simp at h
  · split at h <;> simp at h
  · simpa using h
theorem outR_inv {hand : Bool} {d : Nat} {r q : List Nat} (h : outR hand d r = 2 :: q) : r = 2 :: 2 :: q := by
  unfold outR at h
  split at h
  · rw [h]
  · simp at h
  · split at h <;> simp at h
  · simp at h
theorem call_core {call : CallF} (hcs : CallSound P call) (hI : Inv w g ow st a) (hand : Bool) {f : Nat} {vs : List TV} {r : Ret} (hcall : call f vs (if hand then st.h else []) = some r) (hhid : hand = false → r.h = [] ∧ TV.lts 0 vs = true)
    {args : Array Value} {tk : List Nat} {pos : Nat → Option Nat} (hlen : vs.length = args.size) (hok : vs.all argOk = true)
    (hargs : ∀ (k : Nat) (x : TV) (v : Value), vs[k]? = some x → args[k]? = some v → VR w g st.h.length x v ∧ ((∀ w' g' ow' q, Owns w' g' ow' q x v) ∨ ∃ i, pos i = some k ∧ Owns w g ow [0, i] x v))
    (hpos : ∀ i k, pos i = some k → i ∈ tk) (htk : ∀ i ∈ tk, plainV (sl st.t i) = true) (dd : Nat) (kk : Bool) :
    Calls P f args w (fun e w' => ∃ v, e = .returned v ∧ ∃ g' ow', Stp w g ow st.h.length w' g' ow' ∧ VR w' g' (if hand then r.h else st.h).length r.r v ∧ Owns w' g' ow' [0, dd] r.r v ∧
      Inv w' g' ow' { st with t := downs tk st.t, h := if hand then r.h else st.h, keep := kk } a) := by
  obtain ⟨hl, _, hc⟩ := hcs f vs _ r hcall
  have hargs2 : ∀ (k : Nat) (x : TV) (v : Value), vs[k]? = some x → args[k]? = some v → argOk x = true ∧ VR w g (if hand then st.h else ([] : Heap)).length x v ∧ Owns w g (rnO ow (inR hand pos)) [0, k] x v := by
    intro k x v hx hv
    obtain ⟨h1, h2⟩ := hargs k x v hx hv
    refine ⟨List.all_eq_true.1 hok x (List.mem_of_getElem? hx), ?_, ?_⟩
    · cases hand
      · exact h1.down' (lts_get (hhid rfl).2 hx)
      · exact h1
    · rcases h2 with h2 | ⟨i, hp, h2⟩
      · exact h2 _ _ _ _
      · exact h2.move (fun b p hb => ⟨rfl, rfl, by rw [rnO_at hb]; simp [inR, hp]⟩)
  have hfars : ∀ (b : Nat) (r' : List Nat), ow b = some r' → inR hand pos r' = 2 :: r' → Far (rnO ow (inR hand pos) b) := fun b r' h1 h2 => .inr ⟨r', by rw [rnO_at h1, h2]⟩
  refine Calls.mono (hc w g (rnO ow (inR hand pos)) args hlen hargs2 ?_ (rnO_bd hI.bd)) ?_
  · intro i cs hi
    cases hand
    · simp at hi
    · have hb := hI.box i cs hi
      intro hdd
      obtain ⟨us, ty, fr, r1, r2, r3, r4, r5, r6⟩ := hb hdd
      refine ⟨us, ty, fr, r1, r2, r3, r4, by rw [rnO_at r5]; simp [inR], fun x y v hx hv => ?_⟩
      obtain ⟨c1, c2, c3⟩ := r6 x y v hx hv
      exact ⟨c1, c2, c3.move (fun b p hb => ⟨rfl, rfl, by rw [rnO_at hb]; simp [inR]⟩)⟩
  · rintro e w' ⟨v, rfl, g', ow', hs, hv, ho, hb, hbd⟩
    refine ⟨v, rfl, ⟨g'.imm, if hand then g'.nu else g.nu⟩, rnO ow' (outR hand dd), ?_⟩
    have hkeep : ∀ (b : Nat) (r' : List Nat), ow b = some r' → inR hand pos r' = 2 :: r' → w'.heap[b]? = w.heap[b]? ∧ g'.imm b = g.imm b ∧ rnO ow' (outR hand dd) b = ow b := by
      intro b r' h1 h2
      obtain ⟨k1, k2, k3⟩ := hs.far b (hI.bd b r' h1) (hfars b r' h1 h2)
      refine ⟨k1, k2, ?_⟩
      have : ow' b = some (2 :: r') := by rw [k3, rnO_at h1, h2]
      rw [rnO_at this, h1]; rfl
    have hS : Stp w g ow st.h.length w' ⟨g'.imm, if hand then g'.nu else g.nu⟩ (rnO ow' (outR hand dd)) := by
      refine ⟨hs.os, hs.tape, hs.output, hs.size, hs.cell, hs.imm, fun i hi => ?_, hs.row, fun b hlt hf => ?_, fun b q hq => ?_⟩
      · cases hand
        · rfl
        · exact hs.nu i hi
      · rcases hf with hf | ⟨q, hf⟩
        · obtain ⟨k1, k2, k3⟩ := hs.far b hlt (.inl (by simp [rnO, hf]))
          refine ⟨k1, k2, ?_⟩
          have : ow' b = none := by rw [k3]; simp [rnO, hf]
          simp [rnO, this, hf]
        · exact hkeep b _ hf (inR_two q)
      · obtain ⟨r', hr', hq'⟩ : ∃ r', ow' b = some r' ∧ outR hand dd r' = 2 :: q := by
          unfold rnO at hq
          cases hb' : ow' b with
          | none => rw [hb'] at hq; cases hq
          | some r' => rw [hb'] at hq; exact ⟨r', rfl, by simpa using hq⟩
        have hr2 := outR_inv hq'
        subst hr2
        obtain ⟨k1, k2⟩ := hs.out b _ hr'
        refine ⟨k1, ?_⟩
        cases hb' : ow b with
        | none => simp [rnO, hb'] at k2
        | some s =>
          have : inR hand pos s = 2 :: 2 :: q := by simpa [rnO, hb'] using k2
          rw [inR_inv this]
    have hvv : VR w' ⟨g'.imm, if hand then g'.nu else g.nu⟩ (if hand then r.h else st.h).length r.r v := by
      cases hand
      · obtain ⟨h0, _⟩ := hhid rfl
        rw [h0] at hv
        by_cases hj : r.r = .junk
        · rw [hj]; exact .junk _
        · exact hv.down (fun i hi => absurd hi (Nat.not_lt_zero i)) (hv.lt hj) (Nat.zero_le _)
      · exact hv
    refine ⟨hS, hvv, ho.move (fun b p hb' => ⟨rfl, rfl, by rw [rnO_at hb']; simp [outR]⟩), ?_⟩
    have hm : st.h.length ≤ (if hand then r.h else st.h).length := by
      cases hand
      · exact Nat.le_refl _
      · exact hl
    have hslot : ∀ j, j ∉ tk → ∀ b p, ow b = some ([0, j] ++ p) → w'.heap[b]? = w.heap[b]? ∧ g'.imm b = g.imm b ∧ rnO ow' (outR hand dd) b = ow b := by
      intro j hj b p hbp
      refine hkeep b _ hbp ?_
      have : pos j = none := by
        cases hp : pos j with
        | none => rfl
        | some k => exact absurd (hpos j k hp) hj
      simp [inR, this]
    refine ⟨hI.defers, by simpa [downs_len] using hI.len, fun j => ?_, fun i cs hi => ?_, rnO_bd hbd, Nat.le_trans hI.base hm⟩
    · have hj := hI.slot j
      show SlotR _ _ _ _ (downs tk st.t) a.tmps j (sl (downs tk st.t) j) _
      by_cases hjt : j ∈ tk
      · obtain ⟨h1, h2⟩ := hI.plain (htk j hjt)
        obtain ⟨y, hy, hyv⟩ := downs_shr tk st.t hjt h1
        rw [hy]
        have := (hyv.mono hS hm)
        exact (SlotR.plain (plain_shrT _ this.plain)).2 ⟨this.shrT, this.owns_shrT⟩
      · rw [downs_keep (fun k hk (hki : k = j) => hjt (hki ▸ hk))]
        have hkj := hslot j hjt
        generalize sl st.t j = x at hj ⊢
        cases x <;> first | exact ⟨hj.1.mono hS hm, hj.2.mono hkj⟩ | skip
        case lbox cs =>
          obtain ⟨b, e1, e2⟩ := hj
          exact ⟨b, e1, e2.mono hS hm hkj⟩
        case lp b off =>
          intro cs hcs
          by_cases hbt : b ∈ tk
          · obtain ⟨y, hy, hyv⟩ := downs_shr tk st.t hbt (hI.plain (htk b hbt)).1
            have h5 := plain_shrT _ hyv.plain
            rw [← hy, hcs] at h5
            cases h5
          · rw [downs_keep (fun k hk (hki : k = b) => hbt (hki ▸ hk))] at hcs
            exact hj cs hcs
    · cases hand
      · exact (hI.box i cs hi).mono hS (Nat.le_refl _) (fun b p hbp => hkeep b _ hbp (by simp [inR]))
      · exact fun hdd => (hb i cs hi hdd).reow (fun b p hbp => by rw [rnO_at hbp]; simp [outR])
theorem box_lts {h : Heap} (hb : ∀ (i : Nat) cs, h[i]? = some cs → BoxD w g h.length ow [1, i] cs (g.nu i)) {i : Nat} (hi : i < h.length) : TV.lts h.length (h.getD i []) = true := by
  have hget : h[i]? = some h[i] := by simp
  rw [show h.getD i [] = h[i] by simp [hi]]
  by_cases hd : dead h[i] = true
  · unfold dead at hd
    split at hd
    · rename_i heq
      rw [heq]; rfl
    · cases hd
  · obtain ⟨row, ty, fr, r1, r2, r3, r4, r5, r6⟩ := hb i _ hget (by simpa using hd)
    rw [lts_iff]
    intro x hxm
    obtain ⟨j, hj⟩ := List.getElem?_of_mem hxm
    have hjl : j < row.size := by have := (List.getElem?_eq_some_iff.1 hj).1; omega
    obtain ⟨c1, c2, c3⟩ := r6 j x row[j] hj (by simp [hjl])
    exact c2.lt (isCell_njunk c1)
theorem trim_len {fz : Bool} {base : Nat} {r : Ret} (h : base ≤ r.h.length) : base ≤ (trim fz base r).h.length := by
  unfold trim
  simp only
  repeat' split
  all_goals first | exact h | (simp; omega)
/-- Calls whose new rows are frozen. -/
def trimC (call : CallF) : CallF := fun f as h => (call f as h).map (trim true h.length)
theorem trim_sound {call : CallF} (hcs : CallSound P call) (hord : OrdC call) : CallSound P (trimC call) := by
  intro f as h r hr
  obtain ⟨r0, hr0, rfl⟩ := Option.map_eq_some_iff.1 hr
  obtain ⟨h1, h2, h3⟩ := hcs f as h r0 hr0
  refine ⟨trim_len h1, h2, fun w g ow vs ha hargs hbox hbd => Calls.mono (h3 w g ow vs ha hargs hbox hbd) ?_⟩
  rintro e w' ⟨v, rfl, hp⟩
  refine ⟨v, rfl, (trim_post (fz := true) hp h1 (fun hk i hi => .inl ?_)).2⟩
  exact (hord f as h r0 hr0).2 hk i hi _ hi (box_lts hbox hi)
end
end Go.T
/- Calls as operations of the small machine. -/
set_option linter.unusedVariables false
set_option linter.unusedSimpArgs false
set_option maxRecDepth 10000
namespace Go.T
section
variable {P : Program} {w : World} {g : Gh} {ow : Ow} {st : St} {a : Act} {o : Oper}
/-- Which argument a slot gives. -/
def posOf (k0 : Nat) : List (Bool × Src) → Nat → Option Nat
  | [], _ => none
  | (true, .s i) :: xs, j => if i = j then some k0 else posOf (k0 + 1) xs j
  | _ :: xs, j => posOf (k0 + 1) xs j
theorem posOf_t (k0 i : Nat) (xs : List (Bool × Src)) (j : Nat) : posOf k0 ((true, .s i) :: xs) j = if i = j then some k0 else posOf (k0 + 1) xs j := rfl
theorem posOf_o (k0 : Nat) (b : Bool) (x : Src) (xs : List (Bool × Src)) (j : Nat) (h : ∀ i, ¬ (b = true ∧ x = .s i)) : posOf k0 ((b, x) :: xs) j = posOf (k0 + 1) xs j := by
  cases b with
  | false => cases x <;> rfl
  | true => cases x with
    | c v => rfl
    | s i => exact absurd ⟨rfl, rfl⟩ (h i)
theorem taks_spec (hI : Inv w g ow st a) : ∀ (bs : List (Bool × Src)) (os : List Operand) (k0 : Nat) (vs : List TV) (tk : List Nat), chkSs os (bs.map (·.2)) = true → taks st.t bs = some (vs, tk) →
    vs.length = os.length ∧ (∀ i k, posOf k0 bs i = some k → i ∈ tk) ∧ (∀ i ∈ tk, plainV (sl st.t i) = true) ∧
    ∀ (k : Nat) (x : TV) (v : Value), vs[k]? = some x → (os.map a.eval)[k]? = some v → VR w g st.h.length x v ∧ ((∀ w' g' ow' q, Owns w' g' ow' q x v) ∨ ∃ i, i ∈ tk ∧ posOf k0 bs i = some (k0 + k) ∧ Owns w g ow [0, i] x v) := by
  intro bs
  induction bs with
  | nil =>
    intro os k0 vs tk hc h
    cases os <;> simp [chkSs] at hc
    simp [taks] at h
    obtain ⟨rfl, rfl⟩ := h
    exact ⟨rfl, by simp [posOf], by simp, by simp⟩
  | cons p bs ih =>
    intro os k0 vs tk hc h
    obtain ⟨b, x⟩ := p
    cases os with
    | nil => simp [chkSs] at hc
    | cons o os =>
      simp [chkSs] at hc
      simp only [taks] at h
      split at h
      · rename_i v i vs' is hv hvs
        split at h
        · cases h
        · rename_i hno
          simp at h
          obtain ⟨rfl, rfl⟩ := h
          obtain ⟨h1, h2, h3, h4⟩ := ih os (k0 + 1) vs' is (by simpa using hc.2) hvs
          obtain ⟨t1, t2, t3⟩ := tak_spec hI hc.1 hv
          refine ⟨by simp [h1], ?_, ?_, ?_⟩
          · intro j k hj
            by_cases hbx : ∃ i', b = true ∧ x = .s i'
            · obtain ⟨i', rfl, rfl⟩ := hbx
              rw [posOf_t] at hj
              split at hj
              · rename_i hij
                subst hij
                obtain ⟨_, ⟨_, e2, _⟩ | ⟨_, _, e3⟩⟩ := tak_s hv
                · subst e2; simp
                · cases e3
              · exact List.mem_append_right _ (h2 j k hj)
            · rw [posOf_o _ _ _ _ _ (fun i' hh => hbx ⟨i', hh⟩)] at hj
              exact List.mem_append_right _ (h2 j k hj)
          · intro j hj
            rcases List.mem_append.1 hj with hj | hj
            · exact tak_slots hv j hj
            · exact h3 j hj
          · intro k y u hy hu
            cases k with
            | zero =>
              simp at hy hu
              subst hy; subst hu
              refine ⟨t1, ?_⟩
              rcases t3 with ⟨_, t3⟩ | ⟨j, rfl, e1, t3⟩
              · exact .inl t3
              · refine .inr ⟨j, by simp, ?_, t3⟩
                cases x with
                | c v => cases b <;> simp [tak] at hv
                | s i' =>
                  obtain ⟨_, ⟨_, e2, e3⟩ | ⟨_, e2, _⟩⟩ := tak_s hv
                  · simp at e2
                    subst e2; subst e3
                    simp [posOf]
                  · simp at e2
            | succ k =>
              simp at hy hu
              obtain ⟨k1, k2⟩ := h4 k y u hy (by simpa using hu)
              refine ⟨k1, ?_⟩
              rcases k2 with k2 | ⟨j, m1, m2, m3⟩
              · exact .inl k2
              · refine .inr ⟨j, List.mem_append_right _ m1, ?_, m3⟩
                have hne : ∀ i', (b = true ∧ x = .s i') → i' ≠ j := by
                  rintro i' ⟨rfl, rfl⟩ rfl
                  obtain ⟨_, ⟨_, e2, _⟩ | ⟨_, _, e3⟩⟩ := tak_s hv
                  · subst e2
                    simp at hno
                    exact hno m1
                  · cases e3
                by_cases hbx : ∃ i', b = true ∧ x = .s i'
                · obtain ⟨i', rfl, rfl⟩ := hbx
                  rw [posOf_t, if_neg (hne _ ⟨rfl, rfl⟩), m2]
                  congr 1; omega
                · rw [posOf_o _ _ _ _ _ (fun i' hh => hbx ⟨i', hh⟩), m2]
                  congr 1; omega
      · cases h
theorem call_wp {call : CallF} (hcs : CallSound P call) (hord : OrdC call) (hI : Inv w g ow st a) {pu f : Nat} {vs : List TV} {args : Array Value} {tk : List Nat} {pos : Nat → Option Nat} {d : Dl} (hd : callD call pu st tk f vs = some d)
    (hrun : (∃ fn, P.funcs[f]? = some fn ∧ fn.body.isSome = true ∧ (fn.name == "runtime.NumGoroutine") = false) → (execOp a.eval o).run P w = .ok (.enter f args) w) (hlen : vs.length = args.size)
    (hargs : ∀ (k : Nat) (x : TV) (v : Value), vs[k]? = some x → args[k]? = some v → VR w g st.h.length x v ∧ ((∀ w' g' ow' q, Owns w' g' ow' q x v) ∨ ∃ i, pos i = some k ∧ Owns w g ow [0, i] x v))
    (hpos : ∀ i k, pos i = some k → i ∈ tk) (htk : ∀ i ∈ tk, plainV (sl st.t i) = true) {Q : Exit → Act → World → Prop} :
    o.wp P a w (Nxt w g ow st.h.length (d.ap o.dst st)) Q := by
  unfold callD at hd
  split at hd
  · rename_i hok
    have main : ∀ (call : CallF), CallSound P call → ∀ (hand : Bool) (r : Ret) (kk : Bool), call f vs (if hand then st.h else []) = some r → (hand = false → r.h = [] ∧ TV.lts 0 vs = true) →
        (∀ (dst : Option Nat), d.ap dst st = ({ v := r.r, tk := tk, hw := some (if hand then r.h else st.h, kk) } : Dl).ap dst st) → o.wp P a w (Nxt w g ow st.h.length (d.ap o.dst st)) Q := by
      intro call hcs hand r kk hcall hhid hap
      obtain ⟨_, he, _⟩ := hcs f vs _ r hcall
      unfold Oper.wp
      rw [hrun he, Oper.upon_enter]
      refine Calls.mono (call_core hcs hI hand hcall hhid hlen hok hargs hpos htk (o.dst.getD 0) kk) ?_
      rintro e w' ⟨v, rfl, g', ow', hs, hv, ho, hi⟩
      show Nxt w g ow st.h.length (d.ap o.dst st) (a.put o.dst v) w'
      rw [hap]
      refine ⟨g', ow', hs, ?_⟩
      cases hdst : o.dst with
      | none => exact ⟨hi.defers, hi.len, hi.slot, hi.box, hi.bd, hi.base⟩
      | some i =>
        rw [hdst] at ho
        have := hi.put i hv.plain hv ho
        exact ⟨this.defers, this.len, this.slot, this.box, this.bd, this.base⟩
    split at hd
    · split at hd
      · rename_i r hr
        obtain rfl := Option.some.inj hd
        exact main call hcs true r _ hr (by simp) (fun dst => rfl)
      · cases hd
    · split at hd
      · rename_i r hr
        split at hd
        · rename_i hb
          obtain rfl := Option.some.inj hd
          have hb' := Heap.beq_eq _ _ hb
          exact main call hcs true r st.keep hr (by simp) (fun dst => by rw [if_pos rfl, hb']; rfl)
        · cases hd
      · cases hd
    · split at hd
      · rename_i r hr
        obtain rfl := Option.some.inj hd
        exact main (trimC call) (trim_sound hcs hord) true (trim true st.h.length r) _ (by simp [trimC, hr]) (by simp) (fun dst => rfl)
      · cases hd
    · split at hd
      · rename_i r hr
        split at hd
        · rename_i hb
          obtain rfl := Option.some.inj hd
          have hb' := Heap.beq_eq _ _ hb
          exact main (trimC call) (trim_sound hcs hord) true (trim true st.h.length r) st.keep (by simp [trimC, hr]) (by simp) (fun dst => by rw [if_pos rfl, hb']; rfl)
        · cases hd
      · cases hd
    · split at hd
      · rename_i hl
        split at hd
        · rename_i r hr
          split at hd
          · rename_i hz
            obtain rfl := Option.some.inj hd
            exact main (trimC call) (trim_sound hcs hord) false (trim true 0 r) st.keep (by simp [trimC, hr]) (fun _ => ⟨List.length_eq_zero_iff.1 hz, hl⟩) (fun dst => rfl)
          · cases hd
        · cases hd
      · cases hd
    · split at hd
      · rename_i hl
        split at hd
        · rename_i v kp hr
          obtain rfl := Option.some.inj hd
          exact main call hcs false ⟨v, [], kp⟩ st.keep hr (fun _ => ⟨rfl, hl⟩) (fun dst => rfl)
        · cases hd
      · cases hd
  · cases hd
theorem snd_call {pu f : Nat} {as : List (Bool × Src)} {d : Dl} (hc : chkOp P o.op (.call pu f as) = true) (hI : Inv w g ow st a) {call : CallF} (hcs : CallSound P call) (hord : OrdC call) (hd : delta call st (.call pu f as) = some d) {Q : Exit → Act → World → Prop} :
    o.wp P a w (Nxt w g ow st.h.length (d.ap o.dst st)) Q := by
  cases hop : o.op <;> rw [hop] at hc <;> try (simp [chkOp] at hc; done)
  rename_i c
  obtain ⟨callee, args, types⟩ := c
  cases callee with
  | builtin b => simp [chkOp] at hc
  | invoke r n => simp [chkOp] at hc
  | value y =>
    cases y with
    | tmp t => simp [chkOp] at hc
    | const v => simp [chkOp] at hc
    | global gl => simp [chkOp] at hc
    | func fr =>
      simp [chkOp] at hc
      obtain ⟨rfl, hc⟩ := hc
      simp only [delta] at hd
      split at hd
      · rename_i vs tk hvs
        obtain ⟨h1, h2, h3, h4⟩ := taks_spec hI as args.toList 0 vs tk hc hvs
        refine call_wp (args := args.map a.eval) hcs hord hI hd ?_ (by simp [h1]) (fun k x v hx hv => ?_) h2 h3
        · rintro ⟨fn, e1, e2, e3⟩
          unfold execOp; rw [hop]
          have := run_enter e1 e3 e2 (args.map a.eval) w
          simpa [resolve, invoke, Deferred.ofValue, Act.eval] using this
        · obtain ⟨k1, k2⟩ := h4 k x v hx (by simpa using hv)
          refine ⟨k1, ?_⟩
          rcases k2 with k2 | ⟨i, _, m2, m3⟩
          · exact .inl k2
          · exact .inr ⟨i, by simpa using m2, m3⟩
      · cases hd
theorem snd_callv {pu : Nat} {x : Src} {as : List (Bool × Src)} {d : Dl} (hc : chkOp P o.op (.callv pu x as) = true) (hI : Inv w g ow st a) {call : CallF} (hcs : CallSound P call) (hord : OrdC call) (hd : delta call st (.callv pu x as) = some d) {Q : Exit → Act → World → Prop} :
    o.wp P a w (Nxt w g ow st.h.length (d.ap o.dst st)) Q := by
  cases hop : o.op <;> rw [hop] at hc <;> try (simp [chkOp] at hc; done)
  rename_i c
  obtain ⟨callee, args, types⟩ := c
  cases callee with
  | builtin b => simp [chkOp] at hc
  | invoke r n => simp [chkOp] at hc
  | value y =>
    cases y with
    | func fr => simp [chkOp] at hc
    | global gl => simp [chkOp] at hc
    | const v => simp [chkOp] at hc
    | tmp t =>
      simp [chkOp] at hc
      obtain ⟨hcx, hc⟩ := hc
      simp only [delta] at hd
      split at hd
      · rename_i f cs vs tk hx hvs
        obtain ⟨e1, e2, e3⟩ := ev_spec hI hcx hx
        obtain ⟨h1, h2, h3, h4⟩ := taks_spec hI as args.toList 0 vs tk hc hvs
        generalize hq : a.eval (.tmp t) = q at e1 e3
        cases e1 with
        | fn _ _ us hl hcell hr =>
          refine call_wp (args := args.map a.eval ++ us) hcs hord hI hd ?_ (by simp [h1, hl]) (fun k x v hx hv => ?_) h2 h3
          · rintro ⟨fn, e1, e2, e3⟩
            unfold execOp; rw [hop]
            have := run_enter e1 e3 e2 (args.map a.eval ++ us) w
            simpa [resolve, invoke, Deferred.ofValue, hq] using this
          · have hsz : args.toList.length = args.size := Array.length_toList
            by_cases hk : k < vs.length
            · rw [List.getElem?_append_left hk] at hx
              rw [Array.getElem?_append_left (by simp; omega)] at hv
              obtain ⟨k1, k2⟩ := h4 k x v hx (by simpa using hv)
              refine ⟨k1, ?_⟩
              rcases k2 with k2 | ⟨i, _, m2, m3⟩
              · exact .inl k2
              · exact .inr ⟨i, by simpa using m2, m3⟩
            · rw [List.getElem?_append_right (by omega)] at hx
              rw [Array.getElem?_append_right (by simp; omega)] at hv
              simp at hv
              rw [h1] at hx
              obtain ⟨c1, c2⟩ := hcell _ x v hx (by simpa using hv)
              exact ⟨hr _ x v hx (by simpa using hv), .inl (fun _ _ _ _ => owns_cell c1 c2)⟩
      · cases hd
theorem snd_calk {ks : List Src} {x : Src} {as : List (Bool × Src)} {d : Dl} (hc : chkOp P o.op (.calk ks x as) = true) (hI : Inv w g ow st a) {call : CallF} (hcs : CallSound P call) (hord : OrdC call) (hd : delta call st (.calk ks x as) = some d) {Q : Exit → Act → World → Prop} :
    o.wp P a w (Nxt w g ow st.h.length (d.ap o.dst st)) Q := by
  cases hop : o.op <;> rw [hop] at hc <;> try (simp [chkOp] at hc; done)
  rename_i c
  obtain ⟨callee, args, types⟩ := c
  cases callee with
  | builtin b => simp [chkOp] at hc
  | invoke r n => simp [chkOp] at hc
  | value y =>
    cases y with
    | global gl => simp [chkOp, chkS] at hc
    | const v => simp [chkOp] at hc
    | func fr =>
      simp [chkOp] at hc
      obtain ⟨hcx, hc⟩ := hc
      simp only [delta] at hd
      split at hd
      · rename_i f cs vs tk hx hvs
        split at hd
        · rename_i d' hd'
          have hdd : d' = d := by (split at hd) <;> (split at hd) <;> first | exact Option.some.inj hd | cases hd
          · subst hdd
            unfold chkS at hcx
            split at hcx
            · rename_i hyy; cases hyy
            · rename_i hyy; cases hyy
            · rename_i f1 f2 hyy
              cases hyy
              obtain rfl := eq_of_beq hcx
              simp only [ev, TV.shrT, TV.shrA, TV.shr0, Option.some.injEq, TV.fn.injEq] at hx
              obtain ⟨rfl, rfl⟩ := hx
              obtain ⟨h1, h2, h3, h4⟩ := taks_spec hI as args.toList 0 vs tk hc hvs
              refine call_wp (args := args.map a.eval) hcs hord hI hd' ?_ (by simp [h1]) (fun k x v hx hv => ?_) h2 h3
              · rintro ⟨fn, e1, e2, e3⟩
                unfold execOp; rw [hop]
                have := run_enter e1 e3 e2 (args.map a.eval) w
                simpa [resolve, invoke, Deferred.ofValue, Act.eval] using this
              · obtain ⟨k1, k2⟩ := h4 k x v (by simpa using hx) (by simpa using hv)
                refine ⟨k1, ?_⟩
                rcases k2 with k2 | ⟨i, _, m2, m3⟩
                · exact .inl k2
                · exact .inr ⟨i, by simpa using m2, m3⟩
            · cases hcx
        · cases hd
      · cases hd
    | tmp t =>
      simp [chkOp] at hc
      obtain ⟨hcx, hc⟩ := hc
      simp only [delta] at hd
      split at hd
      · rename_i f cs vs tk hx hvs
        split at hd
        rotate_left
        · cases hd
        rename_i d' hd'
        have hdd : d' = d := by (split at hd) <;> (split at hd) <;> first | exact Option.some.inj hd | cases hd
        subst hdd
        obtain ⟨e1, e2, e3⟩ := ev_spec hI hcx hx
        obtain ⟨h1, h2, h3, h4⟩ := taks_spec hI as args.toList 0 vs tk hc hvs
        generalize hq : a.eval (.tmp t) = q at e1 e3
        cases e1 with
        | fn _ _ us hl hcell hr =>
          refine call_wp (args := args.map a.eval ++ us) hcs hord hI hd' ?_ (by simp [h1, hl]) (fun k x v hx hv => ?_) h2 h3
          · rintro ⟨fn, e1, e2, e3⟩
            unfold execOp; rw [hop]
            have := run_enter e1 e3 e2 (args.map a.eval ++ us) w
            simpa [resolve, invoke, Deferred.ofValue, hq] using this
          · have hsz : args.toList.length = args.size := Array.length_toList
            by_cases hk : k < vs.length
            · rw [List.getElem?_append_left hk] at hx
              rw [Array.getElem?_append_left (by simp; omega)] at hv
              obtain ⟨k1, k2⟩ := h4 k x v hx (by simpa using hv)
              refine ⟨k1, ?_⟩
              rcases k2 with k2 | ⟨i, _, m2, m3⟩
              · exact .inl k2
              · exact .inr ⟨i, by simpa using m2, m3⟩
            · rw [List.getElem?_append_right (by omega)] at hx
              rw [Array.getElem?_append_right (by simp; omega)] at hv
              simp at hv
              rw [h1] at hx
              obtain ⟨c1, c2⟩ := hcell _ x v hx (by simpa using hv)
              exact ⟨hr _ x v hx (by simpa using hv), .inl (fun _ _ _ _ => owns_cell c1 c2)⟩
      · cases hd
end
end Go.T
/- A step of the small machine is a step of the model. -/
set_option linter.unusedVariables false
set_option linter.unusedSimpArgs false
set_option maxRecDepth 10000
namespace Go.T
section
variable {P : Program} {w : World} {g : Gh} {ow : Ow} {st : St} {a : Act} {o : Oper} {call : CallF}
theorem snd_op (hcs : CallSound P call) (hord : OrdC call) {x : TOp} {d : Dl} (hc : chkOp P o.op x = true) (hI : Inv w g ow st a) (hd : delta call st x = some d) {Q : Exit → Act → World → Prop} :
    o.wp P a w (Nxt w g ow st.h.length (d.ap o.dst st)) Q := by
  cases x with
  | mv => exact snd_mv hc hI hd
  | pick => exact snd_pick hc hI hd
  | lbx => exact snd_lbx hc hI hd
  | lal => exact snd_lal hc hI hd
  | hbx => exact snd_hbx hc hI hd
  | hal => exact snd_hal hc hI hd
  | build => exact snd_build hc hI hd
  | bsl => exact snd_bsl hc hI hd
  | ldl => exact snd_ldl hc hI hd
  | ldh => exact snd_ldh hc hI hd
  | ldc => exact snd_ldc hc hI hd
  | stl => exact snd_stl hc hI hd
  | sth => exact snd_sth hc hI hd
  | nilc => exact snd_nilc hc hI hd
  | ar => exact snd_ar hc hI hd
  | eqb => exact snd_eqb hc hI hd
  | eqp => exact snd_eqp hc hI hd
  | eqs => exact snd_eqs hc hI hd
  | not => exact snd_not hc hI hd
  | neg => exact snd_neg hc hI hd
  | cvi => exact snd_cvi hc hI hd
  | cvt => exact snd_cvt hc hI hd
  | cvs => exact snd_cvs hc hI hd
  | cvb => exact snd_cvb hc hI hd
  | cvx => exact snd_cvx hc hI hd
  | mkf => exact snd_mkf hc hI hd
  | mks => exact snd_mks hc hI hd
  | slc => exact snd_slc hc hI hd
  | sls => exact snd_sls hc hI hd
  | fa => exact snd_fa hc hI hd
  | fld => exact snd_fld hc hI hd
  | ia => exact snd_ia hc hI hd
  | sx => exact snd_sx hc hI hd
  | ext => exact snd_ext hc hI hd
  | call => exact snd_call hc hI hcs hord hd
  | callv => exact snd_callv hc hI hcs hord hd
  | calk => exact snd_calk hc hI hcs hord hd
  | mvk => exact snd_mvk hc hI hd
  | bsr => exact snd_bsr hc hI hd
  | ldk => exact snd_ldk hc hI hd
  | ldr => exact snd_ldr hc hI hd
  | slx => exact snd_slx hc hI hd
  | apr => exact snd_apr hc hI hd
  | clr => exact snd_clr hc hI hd
  | len => exact snd_len hc hI hd
  | app => exact snd_app hc hI hd
  | cpy => exact snd_cpy hc hI hd
  | mn => exact snd_mn hc hI hd
  | mx => exact snd_mx hc hI hd
/-- The guard. -/
theorem wanted_spec {ops : Array Oper} {tg : Option (Nat × Bool)} (hg : chkG ops o.guard tg = true) (hI : Inv w g ow st a) {b : Bool} (hw : wanted st.t tg = some b) : Region.wanted o (yielded ops a.tmps) = b := by
  unfold chkG at hg
  split at hg
  · rename_i h1
    simp only [wanted, Option.some.injEq] at hw
    subst hw
    simp [Region.wanted, h1]
  · rename_i j wn s wn' h1
    simp at hg
    obtain ⟨hj, rfl⟩ := hg
    simp only [wanted] at hw
    simp only [Region.wanted, h1]
    have hy : yielded ops a.tmps j = match a.tmps[s]? with | some (.bool b) => some b | _ => none := by
      unfold yielded
      have : ((ops[j]?).bind (·.dst)) = some s := by simpa using hj
      simp only [this, Option.bind_some]
      cases a.tmps[s]? with
      | none => rfl
      | some u => cases u <;> rfl
    have hsl := hI.slot s
    have hget : ∀ v, a.tmps.getD s undef = v → v ≠ undef → a.tmps[s]? = some v := by
      intro v hv hne
      simp only [Array.getD_eq_getD_getElem?] at hv
      cases hh : a.tmps[s]? with
      | none => rw [hh] at hv; exact absurd hv.symm hne
      | some u => rw [hh] at hv; simp at hv; rw [hv]
    split at hw
    · rename_i b' hsb
      rw [hsb] at hsl
      have := hget _ hsl.1.bool_inv (by simp [undef])
      rw [hy, this]
      simp at hw
      subst hw
      simp
    · rename_i hsb
      rw [hsb] at hsl
      have hv := hsl.1
      generalize hq : a.tmps.getD s undef = q at hv
      simp at hw
      subst hw
      cases hv with
      | tup _ us hl _ _ =>
        have : yielded ops a.tmps j = none := by
          rw [hy]
          simp only [Array.getD_eq_getD_getElem?] at hq
          cases hh : a.tmps[s]? with
          | none => rfl
          | some u => rw [hh] at hq; simp at hq; subst hq; rfl
        rw [this]; rfl
    · cases hw
  · cases hg
/-- One operation at its place in a region. -/
theorem step_wpOp (hcs : CallSound P call) (hord : OrdC call) {ops : Array Oper} {i : Nat} {x : TOper} (ho : ops[i]? = some o) (hc : chkOper P ops o x = true) (hI : Inv w g ow st a) {st' : St} (hs : step call x st = some st') {Q : Exit → Act → World → Prop} :
    wpOp P ops Q i (Nxt w g ow st.h.length st') a w := by
  simp only [chkOper, Bool.and_eq_true, decide_eq_true_eq] at hc
  obtain ⟨⟨hd, hg⟩, hop⟩ := hc
  unfold wpOp
  simp only [ho]
  unfold step at hs
  split at hs
  · rename_i d hdl
    split at hs
    · obtain rfl := Option.some.inj hs
      unfold dlt at hdl
      split at hdl
      · rename_i hw
        rw [wanted_spec hg hI hw]
        rw [← hd]
        exact .inl (snd_op hcs hord hop hI hdl)
      · rename_i hw
        rw [wanted_spec hg hI hw]
        obtain rfl := Option.some.inj hdl
        rw [← hd]
        have := hI.nx0 (dst := o.dst) (x := .tup []) (v := undef) ⟨.tup [] #[] rfl (by simp) (by simp), rfl, fun w' g' ow' q => by
          intro p sz s l A n c hs
          cases hs with
          | tup _ _ k x v p _ _ hx hv h => simp at hx⟩
        exact this
      · cases hdl
    · cases hs
  · cases hs
end
end Go.T
/- The boxes only grow, and, while the mark is down, no old box leads to a younger one. -/
set_option linter.unusedVariables false
set_option linter.unusedSimpArgs false
set_option maxRecDepth 10000
namespace Go.T
structure Ord (s s' : St) : Prop where
  len : s.h.length ≤ s'.h.length
  base : s'.base = s.base
  keep : s'.keep = false → s.keep = false ∧ HOrd s.h s'.h
theorem HOrd.refl (h : Heap) : HOrd h h := fun _ _ _ _ hh => hh
theorem HOrd.trans {a b c : Heap} (h : HOrd a b) (k : HOrd b c) (hl : a.length ≤ b.length) : HOrd a c := fun i hi n hn hh => k i (by omega) n hn (h i hi n hn hh)
theorem Ord.refl (s : St) : Ord s s := ⟨Nat.le_refl _, rfl, fun h => ⟨h, .refl _⟩⟩
theorem Ord.trans {a b c : St} (h : Ord a b) (k : Ord b c) : Ord a c where
  len := Nat.le_trans h.len k.len
  base := k.base.trans h.base
  keep hk := ⟨(h.keep (k.keep hk).1).1, (h.keep (k.keep hk).1).2.trans (k.keep hk).2 h.len⟩
theorem HOrd.app (h : Heap) (x : List TV) : HOrd h (h ++ [x]) := by
  intro i hi b hb hh
  simp only [List.getD_eq_getElem?_getD, List.getElem?_append_left hi] at *
  exact hh
theorem HOrd.set {h : Heap} {i : Nat} {cs : List TV} (hc : ∀ b, i < b → TV.lts b (h.getD i []) = true → TV.lts b cs = true) : HOrd h (h.set i cs) := by
  intro j hj b hb hh
  simp only [List.getD_eq_getElem?_getD, List.getElem?_set] at *
  by_cases hij : i = j
  · subst hij
    simp [hj]
    exact hc b hb hh
  · simp only [if_neg hij]
    exact hh
theorem lts_splice {b o : Nat} {cs vs : List TV} (h : TV.lts b cs = true) (hv : TV.lts b vs = true) : TV.lts b (splice cs o vs) = true := by
  rw [lts_iff] at *
  intro x hx
  unfold splice at hx
  rcases List.mem_append.1 hx with hx | hx
  · exact h x (List.mem_of_mem_take hx)
  · rcases List.mem_append.1 hx with hx | hx
    · exact hv x hx
    · exact h x (List.mem_of_mem_drop hx)
theorem lt_shr0 {b : Nat} (x : TV) : TV.lt b x.shr0 = TV.lt b x := by cases x <;> rfl
theorem cut_mem {cs us : List TV} {o n : Nat} (h : cut cs o n = some us) : ∀ x ∈ us, x ∈ cs := by
  unfold cut at h
  split at h
  · obtain rfl := Option.some.inj h
    exact fun x hx => List.mem_of_mem_drop (List.mem_of_mem_take hx)
  · cases h
theorem lts_flat {b : Nat} {l : List TV} (h : TV.lts b l = true) : TV.lts b (flat l) = true := by
  rw [lts_iff] at *
  intro x hx
  obtain ⟨e, he, hx⟩ := List.mem_flatMap.1 hx
  exact cells_lt (h e he) hx
theorem lts_take {b n : Nat} {l : List TV} (h : TV.lts b l = true) : TV.lts b (l.take n) = true := by
  rw [lts_iff] at *
  exact fun x hx => h x (List.mem_of_mem_take hx)
def HwOk (st : St) (d : Dl) : Prop := ∀ h' k', d.hw = some (h', k') → st.h.length ≤ h'.length ∧ (k' = false → st.keep = false ∧ HOrd st.h h')
theorem HwOk.none {st : St} {d : Dl} (h : d.hw = none) : HwOk st d := fun h' k' hh => by rw [h] at hh; cases hh
theorem HwOk.some {st : St} {d : Dl} {h : Heap} {k : Bool} (e : d.hw = some (h, k)) (hl : st.h.length ≤ h.length) (hk : k = false → st.keep = false ∧ HOrd st.h h) : HwOk st d := fun h' k' hh => by
  rw [e] at hh; cases hh; exact ⟨hl, hk⟩
theorem HOrd.take {h h' : Heap} {n : Nat} (hn : h.length ≤ n) (k : HOrd h h') : HOrd h (h'.take n) := by
  intro i hi b hb hh
  have := k i hi b hb hh
  simp only [List.getD_eq_getElem?_getD, List.getElem?_take, if_pos (show i < n by omega)] at this ⊢
  exact this
theorem trim_ord {fz : Bool} {h : Heap} {r : Ret} (h1 : h.length ≤ r.h.length) (h2 : r.kp = false → HOrd h r.h) : (trim fz h.length r).kp = false → HOrd h (trim fz h.length r).h := by
  by_cases ha : r.h.length = h.length
  · unfold trim; rw [if_pos ha]; exact h2
  by_cases hk : r.kp = true
  · unfold trim; rw [if_neg ha, if_pos hk]; exact h2
  have ht := (h2 (by simpa using hk)).take (Nat.le_refl _)
  unfold trim
  rw [if_neg ha, if_neg hk]
  simp only
  split <;> split <;> first | exact h2 | exact fun _ => ht
theorem callD_ord {call : CallF} (hc : OrdC call) {pu f : Nat} {st : St} {tk : List Nat} {vs : List TV} {d : Dl} (hd : callD call pu st tk f vs = some d) : HwOk st d := by
  unfold callD at hd
  split at hd
  · split at hd
    · split at hd
      · rename_i r hr
        obtain rfl := Option.some.inj hd
        obtain ⟨h1, h2⟩ := hc _ _ _ _ hr
        exact HwOk.some rfl h1 (fun hk => by simp at hk; exact ⟨hk.1, h2 hk.2⟩)
      · cases hd
    · split at hd
      · split at hd
        · obtain rfl := Option.some.inj hd
          exact HwOk.none rfl
        · cases hd
      · cases hd
    · split at hd
      · rename_i r hr
        obtain rfl := Option.some.inj hd
        obtain ⟨h1, h2⟩ := hc _ _ _ _ hr
        exact HwOk.some rfl (trim_len h1) (fun hk => by simp at hk; exact ⟨hk.1, trim_ord h1 h2 hk.2⟩)
      · cases hd
    · split at hd
      · split at hd
        · obtain rfl := Option.some.inj hd
          exact HwOk.none rfl
        · cases hd
      · cases hd
    · split at hd
      · split at hd
        · split at hd
          · obtain rfl := Option.some.inj hd
            exact HwOk.none rfl
          · cases hd
        · cases hd
      · cases hd
    · split at hd
      · split at hd
        · obtain rfl := Option.some.inj hd
          exact HwOk.none rfl
        · cases hd
      · cases hd
  · cases hd
theorem lts_shr0 {b : Nat} {l : List TV} (h : TV.lts b l = true) : TV.lts b (l.map TV.shr0) = true := by
  rw [lts_iff] at *
  intro x hx
  obtain ⟨y, hy, rfl⟩ := List.mem_map.1 hx
  rw [lt_shr0]; exact h y hy
theorem lts_append {b : Nat} {l l2 : List TV} (h : TV.lts b l = true) (h2 : TV.lts b l2 = true) : TV.lts b (l ++ l2) = true := by
  rw [lts_iff] at *
  intro x hx
  rcases List.mem_append.1 hx with hx | hx
  · exact h x hx
  · exact h2 x hx
theorem lts_rep {b n : Nat} {z : List TV} (h : TV.lts 0 z = true) : TV.lts b (flat (List.replicate n (.agg z))) = true := by
  apply lts_flat
  rw [lts_iff]
  intro x hx
  obtain rfl := List.eq_of_mem_replicate hx
  exact TV.lts_mono (Nat.zero_le _) _ h
theorem delta_ord {call : CallF} (hc : OrdC call) {st : St} {x : TOp} {d : Dl} (hd : delta call st x = some d) : HwOk st d := by
  cases x with
  | hbx tk x =>
    simp only [delta] at hd
    repeat' split at hd
    all_goals first | (cases hd; done) | skip
    all_goals (obtain rfl := Option.some.inj hd; exact HwOk.some rfl (by simp) (fun hk => ⟨hk, .app _ _⟩))
  | hal z =>
    simp only [delta] at hd
    obtain rfl := Option.some.inj hd
    exact HwOk.some rfl (by simp) (fun hk => ⟨hk, .app _ _⟩)
  | mks ag sz bytes z l c =>
    simp only [delta] at hd
    repeat' split at hd
    all_goals first | (cases hd; done) | skip
    all_goals (obtain rfl := Option.some.inj hd; exact HwOk.some rfl (by simp) (fun hk => ⟨hk, .app _ _⟩))
  | ldh tk ag n p =>
    simp only [delta] at hd
    split at hd
    · rename_i vs hg
      split at hd
      · split at hd
        · rename_i i o hp
          obtain rfl := Option.some.inj hd
          refine HwOk.some rfl (by simp) (fun hk => ⟨hk, .set (fun b hb hh => lts_splice hh ?_)⟩)
          simp only [hp, getH] at hg
          split at hg
          · rename_i cs hcs0
            have hcs := (live_some hcs0).1
            rw [lts_iff]
            intro y hy
            obtain ⟨z, hz, rfl⟩ := List.mem_map.1 hy
            rw [lt_shr0]
            have : st.h.getD i [] = cs := by simp [hcs]
            rw [this] at hh
            exact lts_iff.1 hh z (cut_mem hg z hz)
          · cases hg
        · cases hd
      · obtain rfl := Option.some.inj hd
        exact HwOk.none rfl
    · cases hd
  | sth tk n p x =>
    simp only [delta] at hd
    split at hd
    · split at hd
      · split at hd
        · split at hd
          · obtain rfl := Option.some.inj hd
            rename_i cs hcs0 _
            have hcs := (live_some hcs0).1
            refine HwOk.some rfl (by simp) (fun hk => ?_)
            simp [keeps] at hk
            refine ⟨hk.1, .set (fun b hb hh => lts_splice ?_ (TV.lts_mono (by omega) _ hk.2))⟩
            simpa [hcs] using hh
          · cases hd
        · cases hd
      · cases hd
    · cases hd
  | cpy sz x y =>
    simp only [delta] at hd
    split at hd
    · split at hd
      · rename_i cs hcs0
        have hcs := (live_some hcs0).1
        split at hd
        · obtain rfl := Option.some.inj hd
          refine HwOk.some rfl (by simp) (fun hk => ?_)
          simp [keeps] at hk
          exact ⟨hk.1, .set (fun b hb hh => lts_splice (by simpa [hcs] using hh) (lts_flat (lts_take (TV.lts_mono (by omega) _ hk.2))))⟩
        · cases hd
      · cases hd
    · cases hd
  | bsr ag sz n z ps =>
    simp only [delta] at hd
    split at hd
    · obtain rfl := Option.some.inj hd
      exact HwOk.some rfl (by simp) (fun hk => ⟨hk, .app _ _⟩)
    · cases hd
  | clr z x =>
    simp only [delta] at hd
    split at hd
    · obtain rfl := Option.some.inj hd
      exact HwOk.none rfl
    · split at hd
      · rename_i cs hcs0
        have hcs := (live_some hcs0).1
        split at hd
        · rename_i hcond
          obtain rfl := Option.some.inj hd
          exact HwOk.some rfl (by simp) (fun hk => ⟨hk, .set (fun b hb hh => lts_splice (by simpa [hcs] using hh) (lts_rep hcond.2.2))⟩)
        · cases hd
      · cases hd
    · cases hd
  | apr ag sz bytes x y =>
    simp only [delta] at hd
    split at hd
    · split at hd
      · split at hd
        · obtain rfl := Option.some.inj hd
          exact HwOk.none rfl
        · obtain rfl := Option.some.inj hd
          exact HwOk.some rfl (by simp) (fun hk => ⟨hk, .app _ _⟩)
      · cases hd
    · split at hd
      · rename_i cs hcs0
        have hcs := (live_some hcs0).1
        split at hd
        · split at hd
          · obtain rfl := Option.some.inj hd
            exact HwOk.none rfl
          · split at hd
            · obtain rfl := Option.some.inj hd
              refine HwOk.some rfl (by simp) (fun hk => ?_)
              simp [keeps] at hk
              exact ⟨hk.1, .set (fun b hb hh => lts_splice (by simpa [hcs] using hh) (lts_flat (TV.lts_mono (by omega) _ hk.2)))⟩
            · obtain rfl := Option.some.inj hd
              refine HwOk.some rfl (by simp) (fun hk => ⟨hk, ?_⟩)
              exact (HOrd.set (fun b _ _ => rfl)).trans (.app _ _) (by simp)
        · cases hd
      · cases hd
    · cases hd
  | calk ks x as =>
    simp only [delta] at hd
    split at hd
    · split at hd
      · rename_i d' hd'
        have hdd : d' = d := by (split at hd) <;> (split at hd) <;> first | exact Option.some.inj hd | cases hd
        subst hdd
        exact callD_ord hc hd'
      · cases hd
    · cases hd
  | call pu f as =>
    simp only [delta] at hd
    split at hd
    · exact callD_ord hc hd
    · cases hd
  | callv pu x as =>
    simp only [delta] at hd
    split at hd
    · exact callD_ord hc hd
    · cases hd
  | _ =>
    simp only [delta] at hd
    repeat' split at hd
    all_goals first | (cases hd; done) | skip
    all_goals (obtain rfl := Option.some.inj hd; exact HwOk.none rfl)
theorem ap_ord {st : St} {d : Dl} (h : HwOk st d) (dst : Option Nat) : Ord st (d.ap dst st) := by
  unfold Dl.ap
  cases hw : d.hw with
  | none => exact ⟨Nat.le_refl _, rfl, fun hk => ⟨by simpa [hw] using hk, by simpa [hw] using HOrd.refl _⟩⟩
  | some p =>
    obtain ⟨h', k'⟩ := p
    obtain ⟨h1, h2⟩ := h h' k' hw
    exact ⟨by simpa [hw] using h1, rfl, fun hk => by simpa [hw] using h2 (by simpa [hw] using hk)⟩
theorem step_ord {call : CallF} (hc : OrdC call) {x : TOper} {st st' : St} (h : step call x st = some st') : Ord st st' := by
  unfold step at h
  split at h
  · rename_i d hd
    split at h
    · obtain rfl := Option.some.inj h
      unfold dlt at hd
      split at hd
      · exact ap_ord (delta_ord hc hd) _
      · obtain rfl := Option.some.inj hd
        exact ap_ord (.none rfl) _
      · cases hd
    · cases h
  · cases h
theorem steps_ord {call : CallF} (hc : OrdC call) : ∀ (xs : List TOper) (st st' : St), steps call xs st = some st' → Ord st st' := by
  intro xs
  induction xs with
  | nil => intro st st' h; simp [steps] at h; subst h; exact .refl _
  | cons x xs ih =>
    intro st st' h
    simp only [steps] at h
    split at h
    · rename_i st1 h1
      exact (step_ord hc h1).trans (ih _ _ h)
    · cases h
theorem kill_ord (st : St) (ks : List Nat) : Ord st (st.kill ks) := ⟨Nat.le_refl _, rfl, fun h => ⟨h, .refl _⟩⟩
theorem loopN_ord {f : St → Option (Ex × St)} (hf : ∀ st e st', f st = some (e, st') → Ord st st') : ∀ (k : Nat) (st : St) (e : Ex) (st' : St), loopN f k st = some (e, st') → Ord st st' := by
  intro k
  induction k with
  | zero => intro st e st' h; simp [loopN] at h
  | succ k ih =>
    intro st e st' h
    simp only [loopN] at h
    split at h
    · rename_i st1 h1
      exact (hf _ _ _ h1).trans (ih _ _ _ h)
    · exact hf _ _ _ h
theorem exec_ord {call : CallF} (hc : OrdC call) (k : Nat) : ∀ (x : TC) (st : St) (e : Ex) (st' : St), exec call k x st = some (e, st') → Ord st st' := by
  intro x
  induction x with
  | skip => intro st e st' h; simp [exec] at h; obtain ⟨_, rfl⟩ := h; exact .refl _
  | exit id => intro st e st' h; simp [exec] at h; obtain ⟨_, rfl⟩ := h; exact .refl _
  | ret => intro st e st' h; simp [exec] at h; obtain ⟨_, rfl⟩ := h; exact .refl _
  | reg ops ks =>
    intro st e st' h
    simp only [exec] at h
    split at h
    · rename_i st1 h1
      simp at h
      obtain ⟨_, rfl⟩ := h
      exact (steps_ord hc _ _ _ h1).trans (kill_ord _ _)
    · cases h
  | seq a b iha ihb =>
    intro st e st' h
    simp only [exec] at h
    split at h
    · rename_i st1 h1
      exact (iha _ _ _ h1).trans (ihb _ _ _ h)
    · exact iha _ _ _ h
  | cond c a b iha ihb =>
    intro st e st' h
    simp only [exec] at h
    split at h
    · exact iha _ _ _ h
    · exact ihb _ _ _ h
    · cases h
  | block id b ih =>
    intro st e st' h
    simp only [exec] at h
    split at h
    · rename_i id' st1 h1
      split at h <;> (simp at h; obtain ⟨_, rfl⟩ := h; exact ih _ _ _ h1)
    · exact ih _ _ _ h
  | loop b ih =>
    intro st e st' h
    simp only [exec] at h
    exact loopN_ord ih _ _ _ _ h
end Go.T
/- A code of the small machine tells the code of the model. -/
set_option linter.unusedVariables false
set_option linter.unusedSimpArgs false
set_option maxRecDepth 10000
namespace Go.T
section
variable {P : Program} {w : World} {g : Gh} {ow : Ow} {st : St} {a : Act} {call : CallF}
theorem Nxt.trans {st1 st2 : St} {w1 : World} {m : Nat} {g1 : Gh} {ow1 : Ow} (hs : Stp w g ow m w1 g1 ow1) (hm : m ≤ st1.h.length) {a2 : Act} {w2 : World} (h : Nxt w1 g1 ow1 st1.h.length st2 a2 w2) : Nxt w g ow m st2 a2 w2 := by
  obtain ⟨g', ow', h1, h2⟩ := h
  exact ⟨g', ow', hs.trans h1 hm, h2⟩
theorem Inv.junkSlot (hI : Inv w g ow st a) (i : Nat) : Inv w g ow { st with t := st.t.set i .junk } a where
  defers := hI.defers
  len := by simpa using hI.len
  base := hI.base
  bd := hI.bd
  box := hI.box
  slot j := by
    have hj := hI.slot j
    rw [sl_set]
    by_cases h : i = j ∧ j < st.t.length
    · obtain ⟨rfl, hl⟩ := h
      rw [if_pos ⟨rfl, hl⟩]
      exact ⟨.junk _, fun p sz s l A n c hs => by cases hs⟩
    · rw [if_neg h]
      generalize sl st.t j = y at hj ⊢
      cases y <;> try exact hj
      case lp b' off =>
        intro ds hds
        rw [sl_set] at hds
        split at hds
        · cases hds
        · exact hj ds hds
theorem Inv.kill (ks : List Nat) : ∀ {st : St}, Inv w g ow st a → Inv w g ow (st.kill ks) a := by
  induction ks with
  | nil => intro st h; exact h
  | cons i ks ih => intro st h; exact ih (h.junkSlot i)
/-- What a code that ended so may lead to. -/
def ExQ (ex : Ex) (K : Act → World → Prop) : Exit → Act → World → Prop
  | .normal, a, w => ex = .norm ∧ K a w
  | .ret, a, w => ex = .ret ∧ K a w
  | .exit id, a, w => ex = .ex id ∧ K a w
  | _, _, _ => False
theorem ExQ.mono {ex : Ex} {K K' : Act → World → Prop} (h : ∀ a w, K a w → K' a w) {e : Exit} {a : Act} {w : World} (hh : ExQ ex K e a w) : ExQ ex K' e a w := by
  cases e <;> first | exact ⟨hh.1, h _ _ hh.2⟩ | exact hh
theorem wp_loop_nat {c : Code} {Q : Exit → Act → World → Prop} (I : Nat → Act → World → Prop) {n : Nat} (h0 : I n a w)
    (round : ∀ n a w, I n a w → c.wp P (Exit.then (fun a' w' => ∃ n', n' < n ∧ I n' a' w') Q) a w) : (Code.loop c).wp P Q a w := by
  intro b k cs
  have key : ∀ n a w, I n a w → ∃ e a' w', Q e a' w' ∧ Arrives P (lone (b.at a (.code c :: .inLoop c :: k)) cs w) b k cs e a' w' := by
    intro n
    induction n using Nat.strongRecOn with
    | _ n ih =>
      intro a w hI
      obtain ⟨e, a₁, w₁, hq, harr⟩ := round n a w hI b (.inLoop c :: k) cs
      cases e with
      | normal =>
        obtain ⟨n', hlt, hI₁⟩ := hq
        obtain ⟨e₂, a₂, w₂, hq₂, harr₂⟩ := ih n' hlt a₁ w₁ hI₁
        exact ⟨e₂, a₂, w₂, hq₂, .of_steps (Steps.trans harr (.one step_inLoop)) harr₂⟩
      | exit id => exact ⟨_, a₁, w₁, hq, .pass (x := .inLoop c) rfl (fun _ _ => .inl (by simp)) harr⟩
      | goto l => exact ⟨_, a₁, w₁, hq, .pass (x := .inLoop c) rfl (fun _ _ => .inl (by simp)) harr⟩
      | ret => exact ⟨_, a₁, w₁, hq, .pass (x := .inLoop c) rfl (fun _ _ => .inl (by simp)) harr⟩
      | panic ch => exact ⟨_, a₁, w₁, hq, .pass (x := .inLoop c) rfl (fun _ _ => .inl (by simp)) harr⟩
      | outgrown => exact ⟨_, a₁, w₁, hq, .pass (x := .inLoop c) rfl (fun _ _ => .inl (by simp)) harr⟩
  obtain ⟨e, a', w', hq, harr⟩ := key n a w h0
  exact ⟨e, a', w', hq, .of_steps (.one step_loop) harr⟩
theorem ops_wp (hcs : CallSound P call) (hord : OrdC call) {ops : Array Oper} {Q : Exit → Act → World → Prop} : ∀ (os : List Oper) (xs : List TOper) (k : Nat) (w : World) (g : Gh) (ow : Ow) (st : St) (a : Act) (st' : St), ops.toList.drop k = os → chkOpers P ops os xs = true →
    Inv w g ow st a → steps call xs st = some st' → (∀ a' w', Nxt w g ow st.h.length st' a' w' → Q .normal a' w') → wpOps P ops Q (List.range' k os.length) a w := by
  intro os
  induction os with
  | nil =>
    intro xs k w g ow st a st' hd hc hI hs hk
    cases xs <;> simp [chkOpers] at hc
    simp [steps] at hs
    subst hs
    exact hk a w ⟨g, ow, hI.refl, hI⟩
  | cons o os ih =>
    intro xs k w g ow st a st' hd hc hI hs hk
    cases xs with
    | nil => simp [chkOpers] at hc
    | cons x xs =>
      simp [chkOpers] at hc
      simp only [steps] at hs
      split at hs
      · rename_i st1 h1
        have ho : ops[k]? = some o := by
          have : (ops.toList.drop k)[0]? = some o := by rw [hd]; rfl
          simpa using this
        have hd' : ops.toList.drop (k + 1) = os := by
          rw [← List.drop_drop, hd]; rfl
        rw [List.length_cons, List.range'_succ, wpOps_cons]
        have hlen := (step_ord hord h1).len
        refine wpOp_mono (fun a1 w1 hn => ?_) (step_wpOp hcs hord ho hc.1 hI h1)
        obtain ⟨g1, ow1, n1, n2⟩ := hn
        exact ih xs (k + 1) w1 g1 ow1 st1 a1 st' hd' hc.2 n2 hs (fun a' w' hn' => hk a' w' (hn'.trans n1 hlen))
      · cases hs
/-- Regions of which the order is drawn. -/
def DrawSound (P : Program) (call : CallF) : Prop := ∀ (id : Nat) (ops : Array Oper) (xs : List TOper) (ks : List Nat) (w : World) (g : Gh) (ow : Ow) (st : St) (a : Act) (st' : St), chkC P (.region id ops true) (.reg xs ks) = true → Inv w g ow st a → steps call xs st = some st' →
  (Code.region id ops true).wp P (fun e a' w' => e = .normal ∧ Nxt w g ow st.h.length st' a' w') a w
theorem exec_wp (hcs : CallSound P call) (hord : OrdC call) (hdr : DrawSound P call) (k : Nat) : ∀ (c : Code) (x : TC) (w : World) (g : Gh) (ow : Ow) (st : St) (a : Act) (ex : Ex) (st' : St), chkC P c x = true → Inv w g ow st a → exec call k x st = some (ex, st') →
    c.wp P (ExQ ex (Nxt w g ow st.h.length st')) a w := by
  intro c
  induction c with
  | skip =>
    intro x w g ow st a ex st' hc hI h
    cases x <;> simp [chkC] at hc
    simp [exec] at h
    obtain ⟨rfl, rfl⟩ := h
    exact wp_skip ⟨rfl, g, ow, hI.refl, hI⟩
  | ret =>
    intro x w g ow st a ex st' hc hI h
    cases x <;> simp [chkC] at hc
    simp [exec] at h
    obtain ⟨rfl, rfl⟩ := h
    exact wp_ret ⟨rfl, g, ow, hI.refl, hI⟩
  | exit id =>
    intro x w g ow st a ex st' hc hI h
    cases x <;> simp [chkC] at hc
    subst hc
    simp [exec] at h
    obtain ⟨rfl, rfl⟩ := h
    exact wp_exit ⟨rfl, g, ow, hI.refl, hI⟩
  | region id ops draw =>
    intro x w g ow st a ex st' hc hI h
    cases x <;> try (simp [chkC] at hc; done)
    rename_i xs ks
    simp only [exec] at h
    split at h
    · rename_i st1 h1
      simp at h
      obtain ⟨rfl, rfl⟩ := h
      have kil : ∀ a' w', Nxt w g ow st.h.length st1 a' w' → Nxt w g ow st.h.length (st1.kill ks) a' w' := by
        rintro a' w' ⟨g', ow', n1, n2⟩
        exact ⟨g', ow', n1, n2.kill ks⟩
      cases draw with
      | false =>
        simp [chkC] at hc
        apply wp_region
        rw [List.range_eq_range']
        have := ops_wp (Q := ExQ .norm (Nxt w g ow st.h.length (st1.kill ks))) hcs hord ops.toList xs 0 w g ow st a st1 rfl hc hI h1 (fun a' w' hn => ⟨rfl, kil a' w' hn⟩)
        simpa using this
      | true =>
        refine wp_mono (hdr id ops xs ks w g ow st a st1 hc hI h1) ?_
        rintro e a' w' ⟨rfl, hn⟩
        exact ⟨rfl, kil a' w' hn⟩
    · cases h
  | seq c1 c2 ih1 ih2 =>
    intro x w g ow st a ex st' hc hI h
    cases x <;> try (simp [chkC] at hc; done)
    rename_i x1 x2
    simp [chkC] at hc
    simp only [exec] at h
    apply wp_seq
    split at h
    · rename_i st1 h1
      refine wp_mono (ih1 x1 w g ow st a .norm st1 hc.1 hI h1) ?_
      intro e a1 w1 hq
      cases e <;> simp only [ExQ] at hq <;> first | (obtain ⟨hq, _⟩ := hq; cases hq; done) | (exact hq.elim) | skip
      obtain ⟨_, g1, ow1, n1, n2⟩ := hq
      show c2.wp P _ a1 w1
      refine wp_mono (ih2 x2 w1 g1 ow1 st1 a1 ex st' hc.2 n2 h) (fun e a w hh => hh.mono (fun a w hn => hn.trans n1 (exec_ord hord k _ _ _ _ h1).len))
    · rename_i r hr
      refine wp_mono (ih1 x1 w g ow st a ex st' hc.1 hI h) ?_
      intro e a1 w1 hq
      cases e <;> simp only [ExQ] at hq <;> first | exact hq.elim | skip
      · exact absurd h (by rw [hq.1]; exact fun hh => hr _ hh)
      · exact hq
      · exact hq
  | cond c0 c1 c2 ih1 ih2 =>
    intro x w g ow st a ex st' hc hI h
    cases x <;> try (simp [chkC] at hc; done)
    rename_i y x1 x2
    simp [chkC] at hc
    simp only [exec] at h
    split at h
    · rename_i hev
      have := (ev_spec hI hc.1.1 hev).1.bool_inv
      exact wp_cond_true this (ih1 x1 w g ow st a ex st' hc.1.2 hI h)
    · rename_i hev
      have := (ev_spec hI hc.1.1 hev).1.bool_inv
      exact wp_cond_false this (ih2 x2 w g ow st a ex st' hc.2 hI h)
    · cases h
  | block id c ih =>
    intro x w g ow st a ex st' hc hI h
    cases x <;> try (simp [chkC] at hc; done)
    rename_i j x
    simp [chkC] at hc
    obtain ⟨rfl, hc⟩ := hc
    simp only [exec] at h
    apply wp_block
    split at h
    · rename_i id' st1 h1
      refine wp_mono (ih x w g ow st a _ st1 hc hI h1) ?_
      intro e a1 w1 hq
      cases e <;> simp only [ExQ] at hq <;> first | (obtain ⟨hq, _⟩ := hq; cases hq; done) | (exact hq.elim) | skip
      rename_i id2
      obtain ⟨hid, hn⟩ := hq
      obtain rfl : id' = id2 := by simpa using hid
      show (if id' = id then ExQ ex _ .normal a1 w1 else ExQ ex _ (.exit id') a1 w1)
      split at h <;> rename_i hh
      · simp at h
        obtain ⟨rfl, rfl⟩ := h
        rw [if_pos hh]
        exact ⟨rfl, hn⟩
      · simp at h
        obtain ⟨rfl, rfl⟩ := h
        rw [if_neg hh]
        exact ⟨rfl, hn⟩
    · rename_i r hr
      refine wp_mono (ih x w g ow st a ex st' hc hI h) ?_
      intro e a1 w1 hq
      cases e <;> simp only [ExQ] at hq <;> first | exact hq.elim | skip
      · exact hq
      · exact absurd h (by rw [hq.1]; exact fun hh => hr _ _ hh)
      · exact hq
  | loop c ih =>
    intro x w g ow st a ex st' hc hI h
    cases x <;> try (simp [chkC] at hc; done)
    rename_i x
    simp [chkC] at hc
    simp only [exec] at h
    refine wp_loop_nat (fun n a1 w1 => ∃ g1 ow1 st1, Stp w g ow st.h.length w1 g1 ow1 ∧ Inv w1 g1 ow1 st1 a1 ∧ st.h.length ≤ st1.h.length ∧ loopN (exec call k x) n st1 = some (ex, st')) (n := k) ⟨g, ow, st, hI.refl, hI, Nat.le_refl _, h⟩ ?_
    rintro n a1 w1 ⟨g1, ow1, st1, n1, n2, n3, n4⟩
    cases n with
    | zero => simp [loopN] at n4
    | succ n =>
      simp only [loopN] at n4
      split at n4
      · rename_i st2 h2
        refine wp_mono (ih x w1 g1 ow1 st1 a1 .norm st2 hc n2 h2) ?_
        intro e a2 w2 hq
        cases e <;> simp only [ExQ] at hq <;> first | (obtain ⟨hq, _⟩ := hq; cases hq; done) | (exact hq.elim) | skip
        obtain ⟨_, g2, ow2, m1, m2⟩ := hq
        exact ⟨n, Nat.lt_succ_self n, g2, ow2, st2, n1.trans m1 n3, m2, Nat.le_trans n3 (exec_ord hord k _ _ _ _ h2).len, n4⟩
      · rename_i r hr
        refine wp_mono (ih x w1 g1 ow1 st1 a1 ex st' hc n2 n4) ?_
        intro e a2 w2 hq
        cases e <;> simp only [ExQ] at hq <;> first | exact hq.elim | skip
        · exact absurd n4 (by rw [hq.1]; exact fun hh => hr _ hh)
        · exact ⟨hq.1, hq.2.trans n1 n3⟩
        · exact ⟨hq.1, hq.2.trans n1 n3⟩
  | _ =>
    intro x w g ow st a ex st' hc hI h
    cases x <;> simp [chkC] at hc
end
end Go.T
