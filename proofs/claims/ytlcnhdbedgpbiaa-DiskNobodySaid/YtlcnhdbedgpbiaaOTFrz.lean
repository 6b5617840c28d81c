/- Rows that are frozen when they are handed out; boxes that are given up. -/
import Derived.Test.YtlcnhdbedgpbiaaOTLaw
set_option linter.unusedVariables false
set_option linter.unusedSimpArgs false
set_option maxRecDepth 10000
namespace Go.T
/-- A call's answer, as a proof tells it. -/
def CallPost (w : World) (g : Gh) (ow : Ow) (m : Nat) (r : Ret) (v : Value) (w' : World) : Prop :=
  ∃ g' ow', Stp w g ow m w' g' ow' ∧ VR w' g' r.h.length r.r v ∧ Owns w' g' ow' [3] r.r v ∧ (∀ (i : Nat) cs, r.h[i]? = some cs → BoxD w' g' r.h.length ow' [1, i] cs (g'.nu i)) ∧ (∀ b q, ow' b = some q → b < w'.heap.size)
def HOrd (h h' : Heap) : Prop := ∀ i, i < h.length → ∀ b, i < b → TV.lts b (h.getD i []) = true → TV.lts b (h'.getD i []) = true
def OrdC (call : CallF) : Prop := ∀ f as h r, call f as h = some r → h.length ≤ r.h.length ∧ (r.kp = false → HOrd h r.h)
section
variable {w : World} {g : Gh} {ow : Ow} {h : Heap} {base : Nat}
/-- What frozen rows leave as it is. -/
structure Frz (w : World) (g : Gh) (ow : Ow) (h : Heap) (base : Nat) (g' : Gh) (ow' : Ow) : Prop where
  stp : Stp w g ow h.length w g' ow'
  oth : ∀ c r, ow c = some (3 :: r) → g'.imm c = g.imm c ∧ ow' c = ow c
  box : ∀ (i : Nat) cs, i < base → h[i]? = some cs → BoxD w g' h.length ow' [1, i] cs (g'.nu i)
  bd : ∀ b q, ow' b = some q → b < w.heap.size
theorem Frz.refl (hb : ∀ (i : Nat) cs, h[i]? = some cs → BoxD w g h.length ow [1, i] cs (g.nu i)) (hbd : ∀ b q, ow b = some q → b < w.heap.size) : Frz w g ow h base g ow :=
  ⟨Stp.refl w g ow _ hbd, fun _ _ _ => ⟨rfl, rfl⟩, fun i cs _ hi => hb i cs hi, hbd⟩
theorem rowC_nil {x : TV} (hx : rowC base x = []) : frzC h base x = x := by
  cases x <;> try rfl
  rename_i ag sz i o n
  simp only [rowC] at hx
  split at hx
  · cases hx
  · rename_i hb
    simp only [frzC]
    split
    · rw [if_neg (fun hh => hb hh.2.1)]
    · rfl
theorem frz_cell (hb : ∀ (i : Nat) cs, h[i]? = some cs → BoxD w g h.length ow [1, i] cs (g.nu i)) (hbd : ∀ b q, ow b = some q → b < w.heap.size) {x : TV} {u : Value} (q : List Nat) (hv : VR w g h.length x u) (ho : Owns w g ow (3 :: q) x u) (hok : x.isCell = true) :
    ∃ g' ow', Frz w g ow h base g' ow' ∧ VR w g' h.length (frzC h base x) u ∧ (frzC h base x).isCell = true ∧ Owns w g' ow' (3 :: q) (frzC h base x) u := by
  by_cases hne : frzC h base x = x
  · rw [hne]; exact ⟨g, ow, Frz.refl hb hbd, hv, hok, ho⟩
  cases x <;> try exact absurd rfl hne
  rename_i ag sz i o n
  simp only [frzC] at hne ⊢
  split at hne
  · rename_i cs hcs
    split at hne
    · rename_i hc
      rw [if_pos hc]
      obtain ⟨rfl, hbi, hlen, hel, hz, hag⟩ := hc
      obtain ⟨hcs, hdd⟩ := live_some hcs
      cases hv with
      | asl _ _ _ _ _ c hi hc hm hrow =>
        obtain ⟨row, ty, fr, r1, r2, r3, r4, r5, r6⟩ := hb i cs hcs hdd
        obtain ⟨row', ty', fr', r1', r2'⟩ := hrow
        have hrr : row' = row := by unfold RowOf at r1 r1'; rw [r1] at r1'; simp at r1'; exact r1'.1.symm
        subst hrr
        obtain ⟨b, hbb⟩ : ∃ b, b = g.nu i := ⟨_, rfl⟩
        have hs : Stp w g ow h.length w ⟨fun c => if c = b then n * sz else g.imm c, g.nu⟩ (fun c => if c = b then some (3 :: q) else ow c) := by
          refine ⟨rfl, rfl, rfl, Nat.le_refl _, fun _ _ _ _ => rfl, fun c _ => ?_, fun _ _ => rfl, fun b vs ty fr hh => ⟨vs, fr, hh, rfl⟩, fun c hc hf => ?_, fun c q' hq => ?_⟩
          · show g.imm c ≤ if c = b then n * sz else g.imm c
            split
            · rename_i hcb; rw [hcb, hbb, r4]; exact Nat.zero_le _
            · exact Nat.le_refl _
          · have hcb : c ≠ b := by
              rintro rfl
              rw [hbb, r5] at hf
              rcases hf with hf | ⟨q, hf⟩ <;> simp at hf
            simp [hcb]
          · change (if c = b then some (3 :: q) else ow c) = _ at hq
            split at hq
            · simp at hq
            · exact ⟨hbd c _ hq, hq⟩
        have hnb : ∀ (c : Nat) (r : List Nat), ow c = some r → (∀ p, r ≠ [1, i] ++ p) → c ≠ b := by
          rintro c r hr hh rfl
          rw [hbb, r5] at hr
          exact hh [] (by simpa using (Option.some.inj hr).symm)
        refine ⟨_, _, ⟨hs, fun c r hr => ?_, fun j cs' hj hcs' => ?_, fun c q' hq => ?_⟩, ?_, rfl, ?_⟩
        · have : c ≠ b := hnb c _ hr (by simp)
          simp [this]
        · refine (hb j cs' hcs').mono hs (Nat.le_refl _) (fun c p hcp => ?_)
          have : c ≠ b := hnb c _ hcp (by intro p'; simp; intro hh; omega)
          simp [this]
        · change (if c = b then some (3 :: q) else ow c) = _ at hq
          split at hq
          · rename_i hcb; rw [hcb, hbb]; exact hbd _ _ r5
          · exact hbd c q' hq
        · have g1 := (regroup_spec ag sz n (cs.map TV.shr0)).1
          have hcells := regroup_cells (ag := ag) (sz := sz) (n := n) (cs := cs.map TV.shr0) hz hag (by simpa using hlen) (fun k x hk hx => by
            refine List.all_eq_true.1 hel x (List.mem_of_getElem? (i := k) ?_)
            rw [List.map_take, List.getElem?_take, if_pos hk, hx])
          have hflat : Flat w g h.length sz (regroup ag sz n (cs.map TV.shr0)) (row'.toList.take (n * sz)) := by
            refine ⟨by simp [g1]; omega, fun i' e j x he hx => ?_⟩
            obtain ⟨d1, d2, d3⟩ := hcells i' e he
            obtain ⟨e1, e2, e3⟩ := d3 j x hx
            obtain ⟨y, hy, rfl⟩ := getElem?_map_some e2
            have hlt := row_idx d1 e1
            have hrl : i' * sz + j < row'.size := by omega
            obtain ⟨c1, c2, c3⟩ := r6 _ y row'[i' * sz + j] hy (by simp [hrl])
            refine ⟨e3, row'[i' * sz + j], ?_, c2.shr0⟩
            rw [List.getElem?_take, if_pos hlt]
            simp [hrl]
          have hw : okW sz (regroup ag sz n (cs.map TV.shr0)) = true := by
            refine List.all_eq_true.2 (fun e he => ?_)
            obtain ⟨i', hi'⟩ := List.getElem?_of_mem he
            simp [(hcells i' e hi').2.1]
          have hvr := VR.ofFlat (w := w) (g := ⟨fun c => if c = b then n * sz else g.imm c, g.nu⟩) (m := h.length) (.own sz false) (b := b) (off := 0) (c := c) (hflat.mono hs (Nat.le_refl _)) hw hz (by rw [g1]; exact hc) (by rw [g1]; exact hm) (fun k u hk => by
            have hkl : k < n * sz := by
              have := (List.getElem?_eq_some_iff.1 hk).1
              simp at this; omega
            refine ⟨by simpa using hkl, ?_⟩
            rw [Nat.zero_add, hbb, cell_of_row r1]
            rw [List.getElem?_take, if_pos hkl] at hk
            simpa using hk)
          rw [g1, hbb] at hvr
          rw [hbb]
          exact hvr
        · intro p sz' s' l' A' n' c' hsb
          cases hsb
          rw [hbb]
          exact ⟨hz, fun _ => ⟨_, rfl, by simp, row', ty, fr, r1, by simp, by simpa using Nat.le_of_eq r2', r3⟩⟩
    · exact absurd rfl hne
  · exact absurd rfl hne
/-- .. and a list of such. -/
theorem frz_list {f : TV → TV} {rows : TV → List Nat} {ok : TV → Bool} (hid : ∀ x, rows x = [] → f x = x)
    (hE : ∀ (q : List Nat) (x : TV) (u : Value), VR w g h.length x u → Owns w g ow (3 :: q) x u → ok x = true → (rows x).length ≤ 1 → ∃ g' ow', Frz w g ow h base g' ow' ∧ VR w g' h.length (f x) u ∧ ok (f x) = true ∧ Owns w g' ow' (3 :: q) (f x) u)
    (hb : ∀ (i : Nat) cs, h[i]? = some cs → BoxD w g h.length ow [1, i] cs (g.nu i)) (hbd : ∀ b q, ow b = some q → b < w.heap.size) (Q : List Nat) (xs : List TV) (us : List Value) (hl : xs.length = us.length) (hone : (xs.flatMap rows).length ≤ 1)
    (hv : ∀ (j : Nat) (x : TV) (u : Value), xs[j]? = some x → us[j]? = some u → VR w g h.length x u ∧ Owns w g ow (3 :: (Q ++ [j])) x u ∧ ok x = true) :
    ∃ g' ow', Frz w g ow h base g' ow' ∧ ∀ (j : Nat) (x : TV) (u : Value), (xs.map f)[j]? = some x → us[j]? = some u → VR w g' h.length x u ∧ Owns w g' ow' (3 :: (Q ++ [j])) x u ∧ ok x = true := by
  by_cases hall : ∀ (j : Nat) (x : TV), xs[j]? = some x → rows x = []
  · refine ⟨g, ow, Frz.refl hb hbd, fun j x u hx hu => ?_⟩
    obtain ⟨y, hy, rfl⟩ := getElem?_map_some hx
    rw [hid y (hall j y hy)]
    exact hv j y u hy hu
  · have hall : ∃ (j : Nat) (x : TV), xs[j]? = some x ∧ rows x ≠ [] := by
      apply Classical.byContradiction
      intro hno
      exact hall (fun j x hx => Classical.byContradiction (fun hr => hno ⟨j, x, hx, hr⟩))
    obtain ⟨j, x, hx, hr⟩ := hall
    have others : ∀ (k : Nat) (y : TV), k ≠ j → xs[k]? = some y → rows y = [] := by
      intro k y hkj hy
      apply Classical.byContradiction
      intro hry
      have key : ∀ (l : List TV) (a b : Nat) (x y : TV), a < b → l[a]? = some x → l[b]? = some y → rows x ≠ [] → rows y ≠ [] → 2 ≤ (l.flatMap rows).length := by
        intro l
        induction l with
        | nil => intro a b x y _ h; simp at h
        | cons z l ih =>
          intro a b x y hab h1 h2 hx hy
          rw [List.flatMap_cons, List.length_append]
          cases b with
          | zero => omega
          | succ b =>
            rw [List.getElem?_cons_succ] at h2
            have hyl : 1 ≤ (l.flatMap rows).length := by
              have hm := List.mem_of_getElem? h2
              cases hry : rows y with
              | nil => exact absurd hry hy
              | cons c cs =>
                have : c ∈ l.flatMap rows := List.mem_flatMap.2 ⟨y, hm, by rw [hry]; simp⟩
                exact List.length_pos_of_mem this
            cases a with
            | zero =>
              simp at h1
              subst h1
              have : 1 ≤ (rows z).length := by
                cases hz : rows z with
                | nil => exact absurd hz hx
                | cons c cs => simp
              omega
            | succ a =>
              rw [List.getElem?_cons_succ] at h1
              have := ih a b x y (by omega) h1 h2 hx hy
              omega
      rcases Nat.lt_or_gt_of_ne hkj with hlt | hgt
      · have := key xs k j y x hlt hy hx hry hr; omega
      · have := key xs j k x y hgt hx hy hr hry; omega
    have hjl : j < us.length := by have := (List.getElem?_eq_some_iff.1 hx).1; omega
    obtain ⟨v1, v2, v3⟩ := hv j x us[j] hx (by simp)
    obtain ⟨g', ow', hf, w1, w2, w3⟩ := hE (Q ++ [j]) x us[j] v1 v2 v3 (by
      have hm := List.mem_of_getElem? hx
      obtain ⟨l1, l2, rfl⟩ := List.append_of_mem hm
      rw [List.flatMap_append, List.flatMap_cons, List.length_append, List.length_append] at hone
      omega)
    refine ⟨g', ow', hf, fun k y u hy hu => ?_⟩
    obtain ⟨z, hz, rfl⟩ := getElem?_map_some hy
    by_cases hkj : k = j
    · subst hkj
      rw [hx] at hz
      obtain rfl := Option.some.inj hz
      have : u = us[k] := by rw [List.getElem?_eq_getElem hjl] at hu; exact (Option.some.inj hu).symm
      subst this
      exact ⟨w1, w3, w2⟩
    · rw [hid z (others k z hkj hz)]
      obtain ⟨z1, z2, z3⟩ := hv k z u hz hu
      refine ⟨z1.mono hf.stp (Nat.le_refl _), z2.mono (fun c p hc => ?_), z3⟩
      obtain ⟨o1, o2⟩ := hf.oth c _ hc
      exact ⟨rfl, o1, o2⟩
theorem frz_arg (hb : ∀ (i : Nat) cs, h[i]? = some cs → BoxD w g h.length ow [1, i] cs (g.nu i)) (hbd : ∀ b q, ow b = some q → b < w.heap.size) {x : TV} {u : Value} (q : List Nat) (hr : (rowA base x).length ≤ 1) (hv : VR w g h.length x u) (ho : Owns w g ow (3 :: q) x u) (hok : argOk x = true) :
    ∃ g' ow', Frz w g ow h base g' ow' ∧ VR w g' h.length (frzA h base x) u ∧ argOk (frzA h base x) = true ∧ Owns w g' ow' (3 :: q) (frzA h base x) u := by
  rcases argOk_cells hok with ⟨cs, rfl, hcs⟩ | hcell
  · cases hv with
    | agg _ us hl hc hrr =>
      obtain ⟨g', ow', f1, f2⟩ := frz_list (f := frzC h base) (rows := rowC base) (ok := TV.isCell) (fun x hx => rowC_nil hx) (fun q x u a b c _ => frz_cell hb hbd q a b c) hb hbd q cs us.toList (by simpa using hl) hr (fun j x u hx hu => by
        have hu' : us[j]? = some u := by simpa using hu
        refine ⟨hrr j x u hx hu', fun p sz s l A n c hsub => ?_, hc j x u hx hu'⟩
        have := ho (j :: p) sz s l A n c (.agg _ _ j x u p _ _ hx hu' hsub)
        simpa using this)
      refine ⟨g', ow', f1, ?_, ?_, ?_⟩
      · refine .agg _ _ (by simpa using hl) (fun j x v hx hv => (f2 j x v hx (by simpa using hv)).2.2) (fun j x v hx hv => (f2 j x v hx (by simpa using hv)).1)
      · simp only [frzA, argOk, List.all_eq_true]
        intro x hx
        obtain ⟨j, hj⟩ := List.getElem?_of_mem hx
        have hjl : j < us.size := by rw [← hl]; have := (List.getElem?_eq_some_iff.1 hj).1; simpa using this
        exact (f2 j x us[j] hj (by simp [hjl])).2.2
      · intro p sz s l A n c hsub
        cases hsub with
        | agg _ _ k x v p _ _ hx hv hsub =>
          have := (f2 k x v hx (by simpa using hv)).2.1 p sz s l A n c hsub
          simpa using this
  · have e : frzA h base x = frzC h base x ∧ argOk (frzC h base x) = (frzC h base x).isCell := by
      cases x <;> first | exact ⟨rfl, rfl⟩ | (simp [TV.isCell] at hcell; done) | skip
      all_goals
        refine ⟨rfl, ?_⟩
        simp only [frzC]
        split
        · split <;> rfl
        · rfl
    rw [e.1, e.2]
    obtain ⟨g', ow', f1, f2, f3, f4⟩ := frz_cell (base := base) hb hbd q hv ho hcell
    exact ⟨g', ow', f1, f2, f3, f4⟩
theorem rowA_nil {x : TV} (hx : rowA base x = []) : frzA h base x = x := by
  have key := @rowC_nil h base x
  cases x with
  | agg cs =>
    simp only [frzA]
    congr 1
    simp only [rowA, List.flatMap_eq_nil_iff] at hx
    rw [List.map_congr_left (fun y hy => rowC_nil (hx y hy))]
    simp
  | _ => exact key hx
/-- An answer's value, frozen. -/
theorem frz_val (hb : ∀ (i : Nat) cs, h[i]? = some cs → BoxD w g h.length ow [1, i] cs (g.nu i)) (hbd : ∀ b q, ow b = some q → b < w.heap.size) {x : TV} {u : Value} (hr : (rowT base x).length ≤ 1) (hv : VR w g h.length x u) (ho : Owns w g ow [3] x u) (hj : x ≠ .junk) :
    ∃ g' ow', Frz w g ow h base g' ow' ∧ VR w g' h.length (frzT h base x) u ∧ Owns w g' ow' [3] (frzT h base x) u := by
  have arg : argOk x = true → (∀ vs, x ≠ .tup vs) → ∃ g' ow', Frz w g ow h base g' ow' ∧ VR w g' h.length (frzT h base x) u ∧ Owns w g' ow' [3] (frzT h base x) u := by
    intro hok hnt
    have e : frzT h base x = frzA h base x ∧ rowT base x = rowA base x := by
      cases x <;> first | exact ⟨rfl, rfl⟩ | exact absurd rfl (hnt _)
    rw [e.1]
    rw [e.2] at hr
    obtain ⟨g', ow', f1, f2, _, f4⟩ := frz_arg (base := base) hb hbd [] hr hv ho hok
    exact ⟨g', ow', f1, f2, f4⟩
  cases x with
  | tup vs =>
    cases hv with
    | tup _ us hl hc hrr =>
      obtain ⟨g', ow', f1, f2⟩ := frz_list (f := frzA h base) (rows := rowA base) (ok := argOk) (fun x hx => rowA_nil hx) (fun q x u a b c d => frz_arg hb hbd q d a b c) hb hbd [] vs us.toList (by simpa using hl) hr (fun j x u hx hu => by
        have hu' : us[j]? = some u := by simpa using hu
        refine ⟨hrr j x u hx hu', fun p sz s l A n c hsub => ?_, hc j x u hx hu'⟩
        have := ho (j :: p) sz s l A n c (.tup _ _ j x u p _ _ hx hu' hsub)
        simpa using this)
      refine ⟨g', ow', f1, ?_, ?_⟩
      · refine .tup _ _ (by simpa using hl) (fun j x v hx hv => (f2 j x v hx (by simpa using hv)).2.2) (fun j x v hx hv => (f2 j x v hx (by simpa using hv)).1)
      · intro p sz s l A n c hsub
        cases hsub with
        | tup _ _ k x v p _ _ hx hv hsub =>
          have := (f2 k x v hx (by simpa using hv)).2.1 p sz s l A n c hsub
          simpa using this
  | junk => exact absurd rfl hj
  | agg cs =>
    refine arg ?_ (by simp)
    cases hv with
    | agg _ us hl hc hrr =>
      simp only [argOk, List.all_eq_true]
      intro x hx
      obtain ⟨j, hj⟩ := List.getElem?_of_mem hx
      have hjl : j < us.size := by rw [← hl]; exact (List.getElem?_eq_some_iff.1 hj).1
      exact hc j x us[j] hj (by simp [hjl])
  | lp => cases hv
  | lbox => cases hv
  | _ => exact arg rfl (by simp)
/-- A call's answer, without the boxes that were made since. -/
theorem trim_post {w0 : World} {g0 : Gh} {ow0 : Ow} {fz : Bool} {r : Ret} {v : Value} (hp : CallPost w0 g0 ow0 base r v w) (hbase : base ≤ r.h.length) (hlow : r.kp = false → ∀ i, i < base → TV.lts base (r.h.getD i []) = true ∨ dead (r.h.getD i []) = true) :
    base ≤ (trim fz base r).h.length ∧ CallPost w0 g0 ow0 base (trim fz base r) v w := by
  unfold trim
  split
  · exact ⟨hbase, hp⟩
  split
  · exact ⟨hbase, hp⟩
  rename_i hkp
  obtain ⟨g1, ow1, h1, h2, h3, h4, h5⟩ := hp
  simp only
  have fin : ∀ (u : TV) (g' : Gh) (ow' : Ow), Frz w g1 ow1 r.h base g' ow' → VR w g' r.h.length u v → Owns w g' ow' [3] u v → TV.lt base u = true →
      base ≤ (⟨u, r.h.take base, false⟩ : Ret).h.length ∧ CallPost w0 g0 ow0 base ⟨u, r.h.take base, false⟩ v w := by
    intro u g' ow' hf k1 k2 k3
    have hbl : (r.h.take base).length = base := by simp; omega
    refine ⟨by rw [hbl]; exact Nat.le_refl _, g', ow', h1.trans (hf.stp) hbase, ?_, k2, ?_, hf.bd⟩
    · show VR w g' (r.h.take base).length _ _
      rw [hbl]; exact k1.down' k3
    · intro i cs hi hdd
      show BoxR w g' (r.h.take base).length _ _ _ _
      rw [hbl]
      have hib : i < base := by have := (List.getElem?_eq_some_iff.1 hi).1; simp at this; omega
      have hi2 : r.h[i]? = some cs := by
        have hi' : (r.h.take base)[i]? = some cs := hi
        rw [List.getElem?_take, if_pos hib] at hi'
        exact hi'
      obtain ⟨row, ty, fr, r1, r2, r3, r4, r5, r6⟩ := hf.box i cs hib hi2 hdd
      refine ⟨row, ty, fr, r1, r2, r3, r4, r5, fun j x v hx hv => ?_⟩
      obtain ⟨c1, c2, c3⟩ := r6 j x v hx hv
      refine ⟨c1, c2.down' ?_, c3⟩
      have := hlow (by simpa using hkp) i hib
      rw [show r.h.getD i [] = cs by simp [hi2]] at this
      rcases this with this | this
      · exact lts_get this hx
      · rw [hdd] at this; cases this
  split
  · rename_i hz
    simp only [Bool.and_eq_true, decide_eq_true_eq] at hz
    split
    · rename_i hlt
      have hj : r.r ≠ .junk := by
        intro hj
        rw [hj] at hlt
        simp [frzT, frzA, frzC, TV.lt] at hlt
      obtain ⟨g', ow', f1, f2, f3⟩ := frz_val (base := base) h4 h5 hz.2 h2 h3 hj
      exact fin _ g' ow' f1 f2 f3 hlt
    · exact ⟨hbase, g1, ow1, h1, h2, h3, h4, h5⟩
  · split
    · rename_i hlt
      exact fin _ g1 ow1 (Frz.refl h4 h5) h2 h3 hlt
    · exact ⟨hbase, g1, ow1, h1, h2, h3, h4, h5⟩
end
end Go.T
