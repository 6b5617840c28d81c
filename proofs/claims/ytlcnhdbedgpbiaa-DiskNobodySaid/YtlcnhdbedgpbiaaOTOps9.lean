/- Operations of the small machine that write boxes of the heap, and make rows. -/
import Derived.Test.YtlcnhdbedgpbiaaOTOps8
set_option linter.unusedVariables false
set_option linter.unusedSimpArgs false
set_option maxRecDepth 10000
namespace Go.T
section
variable {P : Program} {w : World} {g : Gh} {ow : Ow} {st : St} {a : Act} {o : Oper} {dst : Option Nat}
theorem gSame {g : Gh} {b : Nat} (h : g.imm b = 0) : ({ g with imm := fun c => if c = b then 0 else g.imm c } : Gh) = g := by
  have : (fun c => if c = b then 0 else g.imm c) = g.imm := by
    funext c; split
    · rename_i h'; rw [h', h]
    · rfl
  rw [this]
/-- A box of the heap's is written. -/
theorem Inv.wrH (h1 : Inv w g ow st a) {i off : Nat} {cs us : List TV} {vs : List Value} (hb : st.h[i]? = some cs) (hdb : dead cs = false) (hl : off + us.length ≤ cs.length) (hlen : us.length = vs.length)
    (hc : ∀ (j : Nat) (x : TV) (u : Value), us[j]? = some x → vs[j]? = some u → x.isCell = true ∧ VR w g st.h.length x u ∧ Owns w g ow ([1, i] ++ [off + j]) x u) (keep : Bool) :
    Stp w g ow st.h.length (w.setCells (g.nu i) off vs) g ow ∧ Inv (w.setCells (g.nu i) off vs) g ow { st with h := st.h.set i (splice cs off us), keep := keep } a := by
  have hbox := h1.box i cs hb hdb
  have hbox' := hbox
  obtain ⟨rs, ty, fr, r1, r2, r3, r4, r5, r6⟩ := hbox
  have hs := Stp.write (m := st.h.length) h1.bd r5 (by simp) r1 (k := off) (us := vs) (by omega) (by omega) 0 (.inl r4.symm)
  rw [gSame r4] at hs
  have hwr := hbox'.wr (us := us) (vs := vs) (k := off) hl hlen hs r4 (fun _ _ => rfl) hc
  refine ⟨hs, h1.defers, h1.len, fun j => ?_, fun k ds hk => ?_, fun c q hq => by rw [(setCells_same _ _ _).2.2.2]; exact h1.bd c q hq, by simpa using h1.base⟩
  all_goals
    have hoth : ∀ (c : Nat) (q p : List Nat), ow c = some (q ++ p) → (q ++ p) ≠ [1, i] → (w.setCells (g.nu i) off vs).heap[c]? = w.heap[c]? := by
      intro c q p hcp hne
      refine setCells_other ?_ _ _ _
      rintro rfl
      rw [r5] at hcp
      exact hne (Option.some.inj hcp).symm
    have hlen2 : (st.h.set i (splice cs off us)).length = st.h.length := by simp
  · have hj := h1.slot j
    have hkk : ∀ c p, ow c = some ([0, j] ++ p) → (w.setCells (g.nu i) off vs).heap[c]? = w.heap[c]? ∧ g.imm c = g.imm c ∧ ow c = ow c := fun c p hcp => ⟨hoth c _ p hcp (by simp), rfl, rfl⟩
    show SlotR _ g (st.h.set i (splice cs off us)).length ow st.t a.tmps j (sl st.t j) _
    rw [hlen2]
    generalize sl st.t j = y at hj ⊢
    cases y <;> first | exact ⟨hj.1.mono hs (Nat.le_refl _), hj.2.mono hkk⟩ | skip
    case lbox ds =>
      obtain ⟨k3, e3, e4⟩ := hj
      exact ⟨k3, e3, e4.mono hs (Nat.le_refl _) hkk⟩
    case lp b2 off2 => exact hj
  · show BoxD _ g (st.h.set i (splice cs off us)).length ow [1, k] ds (g.nu k)
    rw [hlen2]
    have hk' : (st.h.set i (splice cs off us))[k]? = some ds := hk
    rw [List.getElem?_set] at hk'
    split at hk'
    · rename_i hik
      subst hik
      (try rw [if_pos (List.getElem?_eq_some_iff.1 hb).1] at hk')
      obtain rfl := Option.some.inj hk'
      exact hwr.d
    · rename_i hik
      exact (h1.box k ds hk').mono hs (Nat.le_refl _) (fun c p hcp => ⟨hoth c _ p hcp (by simp; intro h; exact absurd h.symm hik), rfl, rfl⟩)
theorem snd_sth {tk : Bool} {n : Nat} {p x : Src} {d : Dl} (hc : chkOp P o.op (.sth tk n p x) = true) (hI : Inv w g ow st a) {call : CallF} (hd : delta call st (.sth tk n p x) = some d) {Q : Exit → Act → World → Prop} :
    o.wp P a w (Nxt w g ow st.h.length (d.ap o.dst st)) Q := by
  cases hop : o.op <;> rw [hop] at hc <;> try (simp [chkOp] at hc; done)
  rename_i t y z
  simp [chkOp] at hc
  obtain ⟨⟨hn, c1⟩, c2⟩ := hc
  simp only [delta] at hd
  split at hd
  · rename_i i off v is e ht
    split at hd
    · rename_i hcond
      obtain ⟨hvn, hok⟩ := hcond
      split at hd
      · rename_i cs hb
        split at hd
        · rename_i hle
          obtain rfl := Option.some.inj hd
          obtain ⟨k2, k1⟩ := (ad_spec hI c1).1 _ _ e
          obtain ⟨ow1, h1, h2, h3, h4, h5⟩ := tak_cells hI c2 ht hok 1 [i] off (by decide)
          obtain ⟨hb, hdb⟩ := live_some hb
          obtain ⟨rs, ty, fr, r1, r2, r3, r4, r5, r6⟩ := h1.box i cs hb hdb
          have hsz : (a.eval z).cells.toList.length = n := by rw [Array.length_toList]; omega
          have hone : ∀ u ∈ (a.eval z).cells.toList, u.oneCell' = true := by
            intro u hu
            obtain ⟨j, hj⟩ := List.getElem?_of_mem hu
            have hj' : (a.eval z).cells[j]? = some u := by simpa using hj
            have hlt : j < v.cells.length := by rw [h4]; exact (Array.getElem?_eq_some_iff.1 hj').1
            obtain ⟨z1, z2, _⟩ := h5 j v.cells[j] u (by simp [hlt]) hj'
            exact z2.oneCell z1
          have hrun := run_st (P := P) (w := w) hn (b := g.nu i) (k := off) (v := a.eval z) (by omega) r1 r3 (by omega) hone
          refine wp_skp (w' := w.setCells (g.nu i) off (a.eval z).cells.toList) ?_ ?_
          · unfold execOp; rw [hop]
            simp only [k2, Sem.run_bind, hrun, Result.andThen_ok]; rfl
          · obtain ⟨hs, hres⟩ := h1.wrH (i := i) (off := off) (cs := cs) (us := v.cells) (vs := (a.eval z).cells.toList) hb hdb (by omega) (by rw [h4, Array.length_toList]) (fun j x u hx hu => h5 j x u hx (by simpa using hu)) (keeps st i v.cells)
            refine ⟨g, ow1, h2.trans hs (Nat.le_refl _), ?_⟩
            cases hdst : o.dst with
            | none => exact ⟨hres.defers, hres.len, hres.slot, hres.box, hres.bd, hres.base⟩
            | some i => exact hres.put i (x := .tup []) (v := undef) rfl (.tup [] #[] rfl (by simp) (by simp)) (by intro p sz s l A n' c hs'; cases hs'; rename_i hx hv h; simp at hx)
        · cases hd
      · cases hd
    · cases hd
  · cases hd
/-- A row of one element, again and again. -/
theorem flat_rep (e : TV) : ∀ n, (flat (List.replicate n e)).length = n * e.cells.length ∧ ∀ j, j < n * e.cells.length → (flat (List.replicate n e))[j]? = e.cells[j % e.cells.length]? := by
  intro n
  induction n with
  | zero => simp [flat]
  | succ n ih =>
    have hf : flat (List.replicate (n + 1) e) = e.cells ++ flat (List.replicate n e) := by simp [flat, List.replicate_succ]
    rw [hf]
    refine ⟨by rw [List.length_append, ih.1, Nat.succ_mul]; omega, fun j hj => ?_⟩
    rw [List.getElem?_append]
    split
    · rename_i h
      rw [Nat.mod_eq_of_lt h]
    · rename_i h
      rw [ih.2 _ (by rw [Nat.succ_mul] at hj; omega)]
      congr 1
      exact (Nat.mod_eq_sub_mod (by omega)).symm
theorem pack_cells {ag : Bool} {z : List TV} {vs : List Value} (hz : ag = true ∨ z.length = 1) (h : cvals vs z = true) : (pack ag z).cells = z := by
  cases ag with
  | true => rfl
  | false =>
    have h1 : z.length = 1 := hz.resolve_left (by simp)
    obtain ⟨hl, hc⟩ := cvals_get h
    match z, h1 with
    | [x], _ =>
      match vs, hl with
      | [v], _ =>
        have := (cval_VR (w := default) (g := ⟨fun _ => 0, fun _ => 0⟩) (m := 0) (hc 0 x v rfl rfl)).2.1
        show x.cells = [x]
        cases x <;> first | rfl | simp [TV.isCell] at this
theorem snd_mks {ag : Bool} {sz bytes : Nat} {z : List TV} {l c : Src} {d : Dl} (hc : chkOp P o.op (.mks ag sz bytes z l c) = true) (hI : Inv w g ow st a) {call : CallF} (hd : delta call st (.mks ag sz bytes z l c) = some d) {Q : Exit → Act → World → Prop} :
    o.wp P a w (Nxt w g ow st.h.length (d.ap o.dst st)) Q := by
  cases hop : o.op <;> rw [hop] at hc <;> try (simp [chkOp] at hc; done)
  rename_i t y1 y2
  simp only [chkOp] at hc
  split at hc
  · rename_i e he
    simp at hc
    obtain ⟨⟨⟨⟨⟨⟨⟨hl, hz⟩, hby⟩, hb0⟩, hlz⟩, hzl⟩, c1⟩, c2⟩ := hc
    have ht := elem_of he
    obtain ⟨zv, hzr, ⟨ti, hi, hiz⟩, hcv⟩ := layZ_of hlz
    obtain ⟨hs1, hs2, hs3⟩ := lay_of hl
    have hisz : ti.size = sz := by unfold szOf at hs1; rw [hi] at hs1; simpa using hs1
    have hiby : ti.bytes = bytes := by unfold byOf at hby; rw [hi] at hby; simpa using hby
    have hpc : (pack ag z).cells = z := pack_cells (by rw [hzl]; exact hs3) hcv
    simp only [delta] at hd
    split at hd
    · rename_i kl li kc ci e1 e2
      split at hd
      · rename_i hcond
        obtain ⟨q1, q2, q3, q4⟩ := hcond
        obtain rfl := Option.some.inj hd
        have h1 := (ev_spec hI c1 e1).1.int_inv
        have h2 := (ev_spec hI c2 e2).1.int_inv
        have hbytes : (ti.bytes : Int) * ci ≤ 281474976710656 := by
          rw [hiby]
          have : (ci.toNat : Int) = ci := Int.toNat_of_nonneg (by omega)
          have h3 : ((ci.toNat * bytes : Nat) : Int) ≤ ((140737488355328 : Nat) : Int) := Int.ofNat_le.2 q3
          rw [Int.natCast_mul, this, Int.mul_comm] at h3
          omega
        have hrun := run_make (P := P) w t e ti zv ht hi hiz kl kc li ci q1 q2 hbytes q4
        have hheap : (w.alloc (.cells (madeCells zv.cells (ci.toNat * ti.size)) e)).heap = w.heap.push (.cells (madeCells zv.cells (ci.toNat * ti.size)) e) := rfl
        have hrun2 : (execOp a.eval o).run P w = .ok (.value (.slice (some (at_ w.heap.size 0)) li.toNat ci.toNat)) (w.alloc (.cells (madeCells zv.cells (ci.toNat * ti.size)) e)) := by
          unfold execOp; rw [hop]
          simp only [h1, h2, Sem.run_bind, hrun, Result.andThen_ok]; rfl
        refine wp_val hrun2 ?_
        obtain ⟨k1, k2⟩ := cvals_cells (w := w) (g := g) (m := st.h.length) hcv
        have hfl := flat_rep (pack ag z) ci.toNat
        rw [hpc, hzl] at hfl
        have hsize : (madeCells zv.cells (ci.toNat * ti.size)).size = ci.toNat * sz := by rw [size_madeCells, hisz]
        have hlen : (flat (zeros ag z ci.toNat)).length = (madeCells zv.cells (ci.toNat * ti.size)).size := by rw [hsize]; exact hfl.1
        have hzs : zv.cells.size = sz := by omega
        obtain ⟨hs, hI1⟩ := hI.mkBox (w' := w.alloc (.cells (madeCells zv.cells (ci.toNat * ti.size)) e)) (cs := flat (zeros ag z ci.toNat)) hheap rfl rfl rfl (Nat.le_of_eq hlen) (fun j x u hx hu => by
          have hj : j < ci.toNat * sz := by have := (Array.getElem?_eq_some_iff.1 hu).1; omega
          have hx' := hfl.2 j hj
          rw [show flat (zeros ag z ci.toNat) = flat (List.replicate ci.toNat (pack ag z)) from rfl] at hx
          rw [hx'] at hx
          have hmod : j % sz < zv.cells.size := by rw [hzs]; exact Nat.mod_lt _ hz
          have hu' : u = zv.cells[j % sz] := by
            unfold madeCells at hu
            rw [hisz] at hu
            simp [hj, hzs] at hu
            rw [← hu]
            simp [hmod]
          obtain ⟨c1, c2, c3⟩ := k2 _ x u hx (by rw [hu']; simp)
          exact ⟨c1, c2, c3 _ _ _ _⟩)
        refine ⟨_, _, hs, ?_⟩
        cases hdst : o.dst with
        | none => exact ⟨hI1.defers, hI1.len, hI1.slot, hI1.box, hI1.bd, hI1.base⟩
        | some i =>
          have hnu : (gBox g w.heap.size st.h.length).nu st.h.length = w.heap.size := by simp [gBox]
          have hp : VR (w.alloc (.cells (madeCells zv.cells (ci.toNat * ti.size)) e)) (gBox g w.heap.size st.h.length) (st.h ++ [flat (zeros ag z ci.toNat)]).length (.asl ag sz st.h.length 0 li.toNat) (.slice (some (at_ ((gBox g w.heap.size st.h.length).nu st.h.length) 0)) li.toNat ci.toNat) :=
            .asl _ _ _ _ _ _ (by simp) (by omega) (by omega) ⟨_, _, _, by rw [hnu]; exact row_push hheap, by omega⟩
          rw [hnu] at hp
          exact hI1.put i rfl hp (owns_cell rfl rfl)
      · cases hd
    · cases hd
  · cases hc
end
end Go.T
