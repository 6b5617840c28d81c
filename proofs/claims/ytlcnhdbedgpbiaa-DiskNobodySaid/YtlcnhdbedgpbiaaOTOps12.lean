/- Operations of the small machine: append, literals, conversions. -/
import Derived.Test.YtlcnhdbedgpbiaaOTOps11
set_option linter.unusedVariables false
set_option linter.unusedSimpArgs false
set_option maxRecDepth 10000
namespace Go.T
section
variable {P : Program} {w : World} {g : Gh} {ow : Ow} {st : St} {a : Act} {o : Oper} {dst : Option Nat}
theorem nils_own {m sz : Nat} (hz : 0 < sz) {v : Value} (h : VR w g m .nils v) : VR w g m (.sl (.own sz false) []) v ∧ ∀ w' g' ow' q, Owns w' g' ow' q (.sl (.own sz false) []) v := by
  cases h with
  | nils A hA =>
    refine ⟨.sl _ [] A 0 1 (fun _ _ => default) (by decide) (by simp) (by simp) hA (fun _ => rfl) (by simp) (by simp) (by simp), fun w' g' ow' q p sz' s l A' n c hs => ?_⟩
    cases hs
    exact ⟨hz, by simp⟩
/-- What is appended, or copied. -/
theorem src_spec (hI : Inv w g ow st a) {u : TypeId} {sz : Nat} {y : Src} {q : Operand} (hkind : (∃ e', P.underlying u = some (.slice e')) ∨ P.underlying u = some .string) (hc : chkS q y = true) {l2 : List TV} (hy : srcS st.h sz (ev st.t y) = some l2) (hw : okW sz l2 = true) (hz : 0 < sz) :
    ∃ news, _root_.Go.Src P sz u (a.eval q) l2.length news w ∧ Flat w g st.h.length sz l2 news := by
  unfold srcS at hy
  split at hy
  · rename_i s hs
    split at hy
    · rename_i hsz
      subst hsz
      obtain rfl := Option.some.inj hy
      have h2 := (ev_spec hI hc hs).1.str_inv
      obtain ⟨b1, b2, b3⟩ := flat_bytes (w := w) (g := g) (m := st.h.length) s
      refine ⟨byteCells s, ?_, b1⟩
      rw [h2, b3]
      exact ⟨hkind, fun w' => rfl, firstCells_string s w, firstCells_string s w.drew, by rw [byteCells_length, Nat.mul_one], b1.one b2⟩
    · cases hy
  · rename_i v hns hv
    obtain ⟨A, c, news, h1, f1, f2, f3, _⟩ := els_flat (P := P) hI (ev_spec hI hc hv).1 hy hw hz
    refine ⟨news, ?_, f1⟩
    rw [h1] at f2 f3 ⊢
    exact ⟨hkind, fun w' => rfl, f2, f3, f1.1, f1.one hw⟩
  · cases hy
theorem snd_app {tk : Bool} {sz bytes : Nat} {x y : Src} {d : Dl} (hc : chkOp P o.op (.app tk sz bytes x y) = true) (hI : Inv w g ow st a) {call : CallF} (hd : delta call st (.app tk sz bytes x y) = some d) {Q : Exit → Act → World → Prop} :
    o.wp P a w (Nxt w g ow st.h.length (d.ap o.dst st)) Q := by
  cases hop : o.op <;> rw [hop] at hc <;> try (simp [chkOp] at hc; done)
  rename_i cl
  obtain ⟨cal, as, ts⟩ := cl
  cases cal <;> try (simp [chkOp] at hc; done)
  rename_i bu
  cases bu <;> simp only [chkOp] at hc <;> try (cases hc; done)
  split at hc
  · rename_i p q t u has hts
    obtain rfl : as = #[p, q] := Array.toList_inj.1 has
    obtain rfl : ts = #[t, u] := Array.toList_inj.1 hts
    simp only [Bool.and_eq_true] at hc
    obtain ⟨⟨⟨hce, c1⟩, c2⟩, c3⟩ := hc
    split at hce
    · rename_i e he
      have ht := elem_of he
      simp only [Bool.and_eq_true, decide_eq_true_eq] at hce
      obtain ⟨⟨⟨⟨hs, hz⟩, hby⟩, hb0⟩, hzv⟩ := hce
      split at hzv
      · rename_i zv hze
        have hzs : zv.cells.size = sz := by simpa using hzv
        have hkind : (∃ e', P.underlying u = some (.slice e')) ∨ P.underlying u = some .string := by
          simp only [Bool.or_eq_true] at c3
          rcases c3 with c3 | c3
          · exact .inr (isStr_of c3)
          · obtain ⟨e', he'⟩ := some_of c3
            exact .inl ⟨e', elem_of he'⟩
        simp only [delta] at hd
        split at hd
        · rename_i n sb l is l2 e1 e2
          split at hd
          · rename_i hcond
            obtain ⟨rfl, k1, k2, k3, k4⟩ := hcond
            obtain rfl := Option.some.inj hd
            obtain ⟨news, f1, f2⟩ := src_spec (P := P) hI hkind c2 e2 k1 hz
            obtain ⟨v1, v2, v3⟩ := tak_spec hI c1 e1
            obtain ⟨rv, w', g', ow', r1, r2, r3⟩ := app_run (P := P) hI ht hkind hs hz hby hze hzs o.type v1 v2 v3 (fun _ h => h) k2 k1 f1 f2 k3 k4 o.dst
            refine wp_val (w' := w') (v := rv) ?_ ⟨g', ow', r2, r3⟩
            unfold execOp; rw [hop]
            simp [resolve, invoke, builtin, r1]
          · cases hd
        · rename_i is l2 e1 e2
          split at hd
          · rename_i hcond
            obtain ⟨k1, k3, k4⟩ := hcond
            obtain rfl := Option.some.inj hd
            obtain ⟨news, f1, f2⟩ := src_spec (P := P) hI hkind c2 e2 k1 hz
            obtain ⟨v1, v2, v3⟩ := tak_spec hI c1 e1
            obtain ⟨n1, n2⟩ := nils_own (sz := sz) hz v1
            obtain ⟨rv, w', g', ow', r1, r2, r3⟩ := app_run (P := P) hI ht hkind hs hz hby hze hzs o.type (l := []) (sb := false) n1 v2 v3 (fun _ _ => n2 _ _ _ _) rfl k1 f1 f2 (by simpa using k3) (by simpa using k4) o.dst
            refine wp_val (w' := w') (v := rv) ?_ ⟨g', ow', r2, r3⟩
            unfold execOp; rw [hop]
            simp [resolve, invoke, builtin, r1]
          · cases hd
        · cases hd
      · cases hzv
    · cases hce
  · cases hc
theorem push_modify {xs : Array Obj} {x : Obj} {f : Obj → Obj} : (xs.push x).modify xs.size f = xs.push (f x) := by
  apply Array.ext_getElem?
  intro i
  rw [Array.getElem?_modify, Array.getElem?_push, Array.getElem?_push]
  by_cases h : i = xs.size
  · subst h; simp
  · rw [if_neg (fun e => h e.symm), if_neg h, if_neg h]
theorem run_s2b (e : TypeId) (s : ByteArray) : ∃ w' c, (Conv.stringToBytes e s).run P w = .ok (.slice (some (at_ w.heap.size 0)) s.size c) w' ∧ s.size ≤ c ∧ w'.os = w.os ∧ w'.tape = w.tape ∧ w'.output = w.output ∧
    w'.heap = w.heap.push (.cells ((byteCells s).toArray ++ Array.replicate (c - s.size) (.int .u8 0)) e (c, c + 1)) := by
  obtain ⟨c, hc⟩ : ∃ c, c = (Question.appendCap s.size 0 e).cut (w.tape w.drawn (.appendCap s.size 0 e)) := ⟨_, rfl⟩
  have hge : s.size ≤ c := by rw [hc]; simp [Question.cut]
  have hsz : ((byteCells s).toArray ++ Array.replicate (c - s.size) (Value.int .u8 0)).size = c := by
    simp [byteCells_length]; omega
  have hb : (s.data.map fun b => Value.int .u8 b.toNat) = (byteCells s).toArray := by
    apply Array.ext'; simp [byteCells]
  refine ⟨{ w.drew with heap := w.heap.push (.cells ((byteCells s).toArray ++ Array.replicate (c - s.size) (.int .u8 0)) e (c, c + 1)) }, c, ?_, hge, rfl, rfl, rfl, rfl⟩
  have hsh : ({ w.drew with heap := w.heap.push (.cells ((byteCells s).toArray ++ Array.replicate (c - s.size) (.int .u8 0)) e) } : World).shape? w.heap.size = some (e, c) := by
    simp only [World.shape?, Array.getElem?_push_size, hsz]
  simp only [Conv.stringToBytes, Sem.run_bind, run_choose, Question.forced, Bool.false_eq_true, if_false, Result.andThen_ok, ← hc, hb, newRow, run_newObj, Sem.run_pure, markStringish, run_shape]
  have hsh' : ({ ({ w with drawn := w.drawn + 1 } : World) with heap := ({ w with drawn := w.drawn + 1 } : World).heap.push (.cells ((byteCells s).toArray ++ Array.replicate (c - s.size) (.int .u8 0)) e) } : World).shape? w.heap.size = some (e, c) := hsh
  simp only [hsh', run_freeze, Result.andThen_ok]
  congr 1
  unfold World.freeze
  rw [if_neg (by decide)]
  simp only [push_modify]
  rfl
theorem snd_cvb {x : Src} {d : Dl} (hc : chkOp P o.op (.cvb x) = true) (hI : Inv w g ow st a) {call : CallF} (hd : delta call st (.cvb x) = some d) {Q : Exit → Act → World → Prop} :
    o.wp P a w (Nxt w g ow st.h.length (d.ap o.dst st)) Q := by
  cases hop : o.op <;> rw [hop] at hc <;> simp [chkOp] at hc
  rename_i sr t y
  obtain ⟨⟨hs, he⟩, hc⟩ := hc
  obtain ⟨ds, hs⟩ := some_of hs
  split at he
  · rename_i e hel
    have ht := elem_of hel
    have hu := isU8_of he
    simp only [delta] at hd
    split at hd
    · rename_i s ex
      split at hd
      · rename_i hsz
        obtain rfl := Option.some.inj hd
        have h1 := (ev_spec hI hc ex).1.str_inv
        obtain ⟨w', c, r1, r2, r3, r4, r5, r6⟩ := run_s2b (P := P) (w := w) e s
        have hrun : (execOp a.eval o).run P w = .ok (.value (.slice (some (at_ w.heap.size 0)) s.size c)) w' := by
          unfold execOp; rw [hop]
          cases ds <;> simp [h1, convert, run_underlying hs, run_underlying ht, run_underlying hu, r1]
        refine wp_val hrun ?_
        obtain ⟨dd, hdd⟩ : ∃ dd, dd = o.dst.getD 0 := ⟨_, rfl⟩
        obtain ⟨b1, b2, b3⟩ := flat_bytes (w := w) (g := g) (m := st.h.length) s
        have hstp : Stp w g ow st.h.length w' (gPush g w.heap.size s.size) (oPush ow w.heap.size [0, dd]) :=
          Stp.push hI.bd r6 r3 r4 r5 (fun b hb => gPush_imm hb) (fun _ _ => rfl) (fun b hb => by simp [oPush, hb]) (fun q => by simp [oPush])
        have hinv := hI.push hstp r6 (fun b hb => gPush_imm hb) (fun b hb => by simp [oPush, hb])
        have hrow : RowOf w' w.heap.size ((byteCells s).toArray ++ Array.replicate (c - s.size) (.int .u8 0)) e (c, c + 1) := by unfold RowOf; rw [r6]; simp
        have hsize : ((byteCells s).toArray ++ Array.replicate (c - s.size) (Value.int .u8 0)).size = c := by simp [byteCells_length]; omega
        refine ⟨_, _, hstp, ?_⟩
        cases hdst : o.dst with
        | none => exact ⟨hinv.defers, hinv.len, hinv.slot, hinv.box, hinv.bd, hinv.base⟩
        | some i =>
          obtain rfl : dd = i := by rw [hdd, hdst]; rfl
          have hv := VR.ofFlat (w := w') (g := gPush g w.heap.size s.size) (m := st.h.length) (.own 1 false) (b := w.heap.size) (off := 0) (c := c) (b1.mono hstp (Nat.le_refl _)) b2 (by decide) (by rw [b3]; exact r2) (by rw [b3]; unfold roomB at hsz; omega) (fun k u hk => by
            have hkl : k < (byteCells s).length := (List.getElem?_eq_some_iff.1 hk).1
            refine ⟨by simp [gPush]; rw [byteCells_length] at hkl; exact hkl, ?_⟩
            rw [Nat.zero_add, cell_of_row hrow, Array.getElem?_append]
            simp only [List.size_toArray]
            rw [if_pos hkl]
            simpa using hk)
          rw [b3] at hv
          refine hinv.put dd rfl hv ?_
          intro p sz' s' l' A' n' c' hsb
          cases hsb
          refine ⟨by decide, fun _ => ⟨_, rfl, by simp [oPush], ?_⟩⟩
          refine ⟨_, e, (c, c + 1), hrow, by simp [gPush, b3], by simp only [Nat.zero_add]; omega, .inr ?_⟩
          rw [hsize]
          exact Nat.le_refl _
      · cases hd
    · cases hd
  · cases he
end
end Go.T
