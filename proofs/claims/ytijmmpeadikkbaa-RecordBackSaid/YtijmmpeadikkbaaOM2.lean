/- A part of the proofs: the small machine. -/
import Derived.Test.YtijmmpeadikkbaaOM1
import Derived.Laws.BytesArg
/- Operations of the small machine that only look: what the model's do. -/
set_option linter.unusedVariables false
set_option linter.unusedSimpArgs false
set_option maxRecDepth 10000
namespace Go.T
section
variable {P : Program} {w : World} {g : Gh} {ow : Ow} {st : St} {a : Act} {o : Oper} {dst : Option Nat}
theorem snd_not {x : Src} {d : Dl} (hc : chkOp P o.op (.not x) = true) (hI : Inv w g ow st a) {call : CallF} (hd : delta call st (.not x) = some d) {Q : Exit → Act → World → Prop} :
    o.wp P a w (Nxt w g ow st.h.length (d.ap o.dst st)) Q := by
  simp only [delta] at hd
  split at hd
  · rename_i b e
    obtain rfl : ({ v := .bool !b } : Dl) = d := by simpa using hd
    cases hop : o.op <;> rw [hop] at hc <;> try (simp [chkOp] at hc; done)
    rename_i u t y
    cases u <;> simp [chkOp] at hc
    have h1 := (ev_spec hI hc e).1.bool_inv
    refine wp_val (v := .bool !b) (w' := w) ?_ (hI.nx0 o.dst (cellR (.bool _) rfl rfl))
    unfold execOp; rw [hop]; simp [h1, Op.unary]
  · cases hd
theorem snd_neg {x : Src} {d : Dl} (hc : chkOp P o.op (.neg x) = true) (hI : Inv w g ow st a) {call : CallF} (hd : delta call st (.neg x) = some d) {Q : Exit → Act → World → Prop} :
    o.wp P a w (Nxt w g ow st.h.length (d.ap o.dst st)) Q := by
  simp only [delta] at hd
  split at hd
  · rename_i k n e
    obtain rfl : ({ v := .int k (k.wrap (0 - n)) } : Dl) = d := by simpa using hd
    cases hop : o.op <;> rw [hop] at hc <;> try (simp [chkOp] at hc; done)
    rename_i u t y
    cases u <;> simp [chkOp] at hc
    have h1 := (ev_spec hI hc e).1.int_inv
    refine wp_val (v := .int k (k.wrap (0 - n))) (w' := w) ?_ (hI.nx0 o.dst (cellR (.int _ _) rfl rfl))
    unfold execOp; rw [hop]; simp [h1, Op.unary, Op.intArith]
  · cases hd
theorem isStr_of {t : TypeId} (h : isStrT P t = true) : P.underlying t = some .string := by
  unfold isStrT at h
  split at h <;> first | assumption | cases h
theorem isU8_of {t : TypeId} (h : isU8 P t = true) : P.underlying t = some (.int .u8) := by
  unfold isU8 at h
  split at h <;> first | assumption | cases h
theorem elem_of {t e : TypeId} (h : elemOf? P t = some e) : P.underlying t = some (.slice e) := by
  unfold elemOf? at h
  split at h
  · obtain rfl := Option.some.inj h; assumption
  · cases h
theorem some_of {α : Type} {x : Option α} (h : x.isSome = true) : ∃ y, x = some y := Option.isSome_iff_exists.1 h
theorem snd_cvi {k : IntKind} {x : Src} {d : Dl} (hc : chkOp P o.op (.cvi k x) = true) (hI : Inv w g ow st a) {call : CallF} (hd : delta call st (.cvi k x) = some d) {Q : Exit → Act → World → Prop} :
    o.wp P a w (Nxt w g ow st.h.length (d.ap o.dst st)) Q := by
  simp only [delta] at hd
  split at hd
  · rename_i k' n e
    obtain rfl : ({ v := .int k (k.wrap n) } : Dl) = d := by simpa using hd
    cases hop : o.op <;> rw [hop] at hc <;> simp [chkOp] at hc
    rename_i s t y
    obtain ⟨⟨hs, ht⟩, hc⟩ := hc
    have hu : P.underlying t = some (.int k) := by
      split at ht
      · rename_i q hq
        have : k = q := by simpa using ht
        rw [this]; exact hq
      · cases ht
    obtain ⟨ds, hs⟩ := some_of hs
    have h1 := (ev_spec hI hc e).1.int_inv
    refine wp_val (v := .int k (k.wrap n)) (w' := w) ?_ (hI.nx0 o.dst (cellR (.int _ _) rfl rfl))
    unfold execOp; rw [hop]
    simp [h1, convert, run_underlying hs, run_underlying hu, Conv.intToInt]
  · cases hd
theorem snd_cvt {x : Src} {d : Dl} (hc : chkOp P o.op (.cvt x) = true) (hI : Inv w g ow st a) {call : CallF} (hd : delta call st (.cvt x) = some d) {Q : Exit → Act → World → Prop} :
    o.wp P a w (Nxt w g ow st.h.length (d.ap o.dst st)) Q := by
  simp only [delta] at hd
  split at hd
  · rename_i s e
    obtain rfl : ({ v := .str s } : Dl) = d := by simpa using hd
    cases hop : o.op <;> rw [hop] at hc <;> simp [chkOp] at hc
    rename_i sr t y
    obtain ⟨⟨hs, ht⟩, hc⟩ := hc
    have hu := isStr_of ht
    obtain ⟨ds, hs⟩ := some_of hs
    have h1 := (ev_spec hI hc e).1.str_inv
    refine wp_val (v := .string s) (w' := w) ?_ (hI.nx0 o.dst (cellR (.str _) rfl rfl))
    unfold execOp; rw [hop]
    cases ds <;> simp [h1, convert, run_underlying hs, run_underlying hu]
  · cases hd
theorem all_get {p : TV → Bool} {l : List TV} (h : l.all p = true) {i : Nat} {x : TV} (hx : l[i]? = some x) : p x = true := List.all_eq_true.1 h x (List.mem_of_getElem? hx)
theorem at_add (b o n : Nat) : (at_ b o).add n = at_ b (o + n) := Addr.add_mid b o n
theorem run_convert_bytes_none (w : World) (src e : TypeId) (hs : P.underlying src = some (.slice e)) (he : P.underlying e = some (.int .u8)) (ad : Addr) (c : Nat) :
    ∀ dst, P.underlying dst = some .string → (convert src dst (.slice (some ad) 0 c)).run P w = .ok (.string ByteArray.empty) w := by
  intro dst hd
  have hl : (loadCells ad 0).run P w = .ok (([] : List Int).map (Value.int .u8)).toArray w := run_loadCells_list (P := P) w ad [] (by simp)
  rw [run_convert_bytes_string w src dst e _ 0 c hs he hd, run_bytesToString w _ 0 c [] hl]
  rfl
theorem cvs_core {x : Src} {d : Dl} (hc : chkOp P o.op (.cvs x) = true) (hI : Inv w g ow st a) {vx : TV} {l : List TV} (e : ev st.t x = some vx) (hl : elS st.h vx = some l) (hb : l.all isByte = true) (hd : some ({ v := .str ⟨(l.map byteOf).toArray⟩ } : Dl) = some d) {Q : Exit → Act → World → Prop} :
    o.wp P a w (Nxt w g ow st.h.length (d.ap o.dst st)) Q := by
  obtain rfl : ({ v := .str ⟨(l.map byteOf).toArray⟩ } : Dl) = d := by simpa using hd
  cases hop : o.op <;> rw [hop] at hc <;> simp [chkOp] at hc
  rename_i sr t y
  obtain ⟨⟨ht, he⟩, hc⟩ := hc
  have hu := isStr_of ht
  split at he
  · rename_i el hel
    have hs := elem_of hel
    have hu8 := isU8_of he
    obtain ⟨A0, c0, g', hq0, h1, _⟩ := els_sl hI.box hI.bd (ev_spec hI hc e).1 hl
    generalize hq : a.eval y = q at h1
    refine wp_val (v := .string ⟨(l.map byteOf).toArray⟩) (w' := w) ?_ (hI.nx0 o.dst (cellR (.str _) rfl rfl))
    unfold execOp; rw [hop]
    simp only [hq]
    cases h1 with
    | sl _ _ A c sz vals hz hcap hm hA hn hE h hr =>
      cases A with
      | none =>
        obtain rfl := hn rfl
        have := run_convert_bytes_nil (P := P) w sr el hs hu8 0 c t hu
        simp only [List.length_nil, Sem.run_bind, this, Result.andThen_ok]
        rfl
      | some ad =>
        by_cases hl0 : l = []
        · subst hl0
          have := run_convert_bytes_none (P := P) w sr el hs hu8 ad c t hu
          simp only [List.length_nil, Sem.run_bind, this, Result.andThen_ok]
          rfl
        obtain ⟨b, off, sp⟩ := ad
        obtain rfl : sp = none := hA _ rfl (by have := List.length_pos_iff.2 hl0; omega)
        have hsz : ∀ (i : Nat) (e : TV), l[i]? = some e → e.cells = [e] ∧ ∃ n, e = TV.int .u8 n := by
          intro i e hi
          have := all_get hb hi
          unfold isByte at this
          split at this
          · exact ⟨rfl, _, rfl⟩
          · cases this
        let xs : List Int := l.map fun e => match e with | .int _ n => n | _ => 0
        have hx : strOfNums xs = ⟨(l.map byteOf).toArray⟩ := by
          simp only [strOfNums, xs, List.map_map]
          congr 2
          apply List.map_congr_left
          intro e hem
          obtain ⟨i, hi⟩ := List.getElem?_of_mem hem
          obtain ⟨_, n, rfl⟩ := hsz i e hi
          rfl
        have hr2 := run_convert_bytes_arg (P := P) w sr el hs hu8 b off l.length c xs (by simp [xs]) (fun i hi => by
          have hi' : l[i]? = some l[i] := by simp [hi]
          obtain ⟨hc1, n, hn1⟩ := hsz i _ hi'
          have hsz1 : sz = 1 := by
            have := hE l[i] (List.getElem_mem hi)
            rw [hc1] at this
            simpa using this.symm
          obtain ⟨_, _, k3⟩ := h _ i _ 0 _ rfl hi' (by rw [hc1]; rfl)
          have k4 := hr i _ 0 _ hi' (by rw [hc1]; rfl)
          rw [hn1] at k4
          have := k4.int_inv
          simp only [hsz1, Nat.mul_one, Nat.add_zero] at k3
          rw [show off + i = off + i from rfl]
          have e2 : xs.getD i 0 = n := by simp [xs, List.getElem?_eq_getElem hi, hn1]
          rw [e2, ← this]
          exact k3) t hu
        simp only [Sem.run_bind, hr2, Result.andThen_ok, hx]
        rfl
  · cases he
theorem snd_cvs {x : Src} {d : Dl} (hc : chkOp P o.op (.cvs x) = true) (hI : Inv w g ow st a) {call : CallF} (hd : delta call st (.cvs x) = some d) {Q : Exit → Act → World → Prop} :
    o.wp P a w (Nxt w g ow st.h.length (d.ap o.dst st)) Q := by
  simp only [delta] at hd
  split at hd
  · rename_i vx e
    split at hd
    · rename_i l hl
      split at hd
      · rename_i hb
        exact cvs_core hc hI e hl hb hd
      · cases hd
    · cases hd
  · cases hd
theorem snd_len {b : Bool} {x : Src} {d : Dl} (hc : chkOp P o.op (.len b x) = true) (hI : Inv w g ow st a) {call : CallF} (hd : delta call st (.len b x) = some d) {Q : Exit → Act → World → Prop} :
    o.wp P a w (Nxt w g ow st.h.length (d.ap o.dst st)) Q := by
  cases hop : o.op <;> rw [hop] at hc <;> try (simp [chkOp] at hc; done)
  rename_i cl
  obtain ⟨cal, as, ts⟩ := cl
  cases cal <;> try (simp [chkOp] at hc; done)
  rename_i bu
  cases bu <;> simp [chkOp] at hc
  obtain ⟨hsz, hc⟩ := hc
  split at hc
  · rename_i y t hy ht
    simp at hc
    obtain ⟨hcy, hc⟩ := hc
    have has : as = #[y] := by
      apply Array.ext
      · simpa using hsz
      · intro i h1 h2
        have : i = 0 := by simp at h2; omega
        subst this
        have := (Array.getElem?_eq_some_iff.1 hy).2
        simpa using this
    subst has
    have key : ∀ (n : Nat) (du : TypeDesc), P.underlying t = some du → (match du, a.eval y with | .string, .string s => s.size = n | .slice _, .slice _ k _ => k = n | _, _ => False) → o.wp P a w (Nxt w g ow st.h.length (({ v := .int .i64 n } : Dl).ap o.dst st)) Q := by
      intro n du hdu hm
      refine wp_val (v := .int .i64 n) (w' := w) ?_ (hI.nx0 o.dst (cellR (.int _ _) rfl rfl))
      unfold execOp; rw [hop]
      simp only [resolve, Sem.run_bind, Sem.run_pure, Result.andThen_ok, invoke, builtin, Builtin.len_, ht]
      simp only [List.map_toArray, List.map_cons, List.map_nil]
      simp [run_underlying hdu]
      split at hm
      · rename_i s hs
        simp [hs, hm, goInt]
      · rename_i k c hs
        simp [hs, hm, goInt]
      · exact hm.elim
    simp only [delta] at hd
    split at hd
    · rename_i s e
      cases b <;> simp at hd hc
      subst hd
      have h1 := (ev_spec hI hcy e).1.str_inv
      exact key _ _ (isStr_of hc) (by simp [h1])
    · rename_i tg l e
      cases b <;> simp at hd hc
      subst hd
      obtain ⟨el, hel⟩ := some_of hc
      have h1 := (ev_spec hI hcy e).1
      generalize hq : a.eval y = q at h1 key
      cases h1
      exact key _ _ (elem_of hel) rfl
    · rename_i ag s1 i1 o1 n1 e
      cases b <;> simp at hd hc
      subst hd
      obtain ⟨el, hel⟩ := some_of hc
      have h1 := (ev_spec hI hcy e).1
      generalize hq : a.eval y = q at h1 key
      cases h1
      exact key _ _ (elem_of hel) rfl
    · cases hd
  · cases hc
end
end Go.T
/- Operations of the small machine that only look, further: what the model's do. -/
set_option linter.unusedVariables false
set_option linter.unusedSimpArgs false
set_option maxRecDepth 10000
namespace Go.T
section
variable {P : Program} {w : World} {g : Gh} {ow : Ow} {st : St} {a : Act} {o : Oper} {dst : Option Nat}
/-- What a bound is. -/
def IsBd (v : Option Value) (dflt n : Nat) : Prop := match v with
  | none => n = dflt
  | some v => ∃ k i, v = Value.int k i ∧ 0 ≤ i ∧ i.toNat = n
theorem bound_spec (hI : Inv w g ow st a) {o : Option Operand} {x : Option Src} {dflt most n : Nat} (hc : chkSO o x = true) (h : bound st.t x dflt most = some n) : IsBd (o.map a.eval) dflt n ∧ (o.isSome = true → n ≤ most) := by
  cases o <;> cases x <;> simp [chkSO] at hc
  · simp only [bound, Option.some.injEq] at h
    exact ⟨h.symm, by simp⟩
  · simp only [bound] at h
    split at h
    · rename_i k i e
      split at h
      · rename_i hb
        obtain rfl : i.toNat = n := by simpa using h
        exact ⟨⟨k, i, (ev_spec hI hc e).1.int_inv, hb.1, rfl⟩, fun _ => by omega⟩
      · cases h
    · cases h
theorem run_bounds {len cap : Nat} {lo hi mx : Option Value} {l h m : Nat} (b : Bool) (hlo : IsBd lo 0 l) (hhi : IsBd hi len h) (hmx : IsBd mx cap m) (h1 : l ≤ h) (h2 : h ≤ m) (h3 : m ≤ cap) (hm : mx.isSome = true → hi.isSome = true) :
    (Instr.sliceBounds b len cap lo hi mx).run P w = .ok (l, h, m) w := by
  cases lo <;> cases hi <;> cases mx <;> simp [IsBd] at hlo hhi hmx hm
  all_goals
    (try (obtain ⟨k1, i1, rfl, p1, q1⟩ := hlo))
    (try (obtain ⟨k2, i2, rfl, p2, q2⟩ := hhi))
    (try (obtain ⟨k3, i3, rfl, p3, q3⟩ := hmx))
    subst_vars
    simp (disch := omega) [Instr.sliceBounds, run_sliceBound]
theorem run_slc {t e : TypeId} {sz : Nat} (ht : P.underlying t = some (.slice e)) (hs : szOf P e = some sz) (A : Option Addr) {len cap : Nat} {lo hi mx : Option Value} {l h m : Nat} (hlo : IsBd lo 0 l) (hhi : IsBd hi len h) (hmx : IsBd mx cap m) (h1 : l ≤ h) (h2 : h ≤ m) (h3 : m ≤ cap) (hm : mx.isSome = true → hi.isSome = true) :
    (Instr.sliceAt t (.slice A len cap) lo hi mx).run P w = .ok (.slice (if m = l then A else A.map (·.add (l * sz))) (h - l) (m - l)) w := by
  unfold szOf at hs
  cases hi' : P.info? e with
  | none => rw [hi'] at hs; cases hs
  | some i =>
    rw [hi'] at hs
    have hs' : i.size = sz := by simpa using hs
    simp [Instr.sliceAt, Instr.slice, run_underlying ht, run_bounds (P := P) (w := w) true hlo hhi hmx h1 h2 h3 hm, sizeOf, typeInfo, hi', hs']
theorem okW_get {sz : Nat} {l : List TV} (h : okW sz l = true) {e : TV} (he : e ∈ l) : e.cells.length = sz := by
  have := List.all_eq_true.1 h e he
  simpa using this
/-- A piece of a slice. -/
theorem VR.piece {m : Nat} {tg : Tag} {l : List TV} {A : Option Addr} {c sz lo hi M : Nat} (tg' : Tag) (h : VR w g m (.sl tg l) (.slice A l.length c)) (hw : okW sz l = true) (hz : 0 < sz) (h1 : lo ≤ hi) (h2 : hi ≤ l.length) (h3 : hi ≤ M) (hMc : M ≤ c) :
    VR w g m (.sl tg' ((l.take hi).drop lo)) (.slice (if M = lo then A else A.map (·.add (lo * sz))) (hi - lo) (M - lo)) := by
  have hlen : ((l.take hi).drop lo).length = hi - lo := by simp; omega
  have hget : ∀ i, ((l.take hi).drop lo)[i]? = if i < hi - lo then l[lo + i]? else none := by
    intro i
    rw [List.getElem?_drop, List.getElem?_take]
    by_cases h : i < hi - lo
    · rw [if_pos (by omega), if_pos h]
    · rw [if_neg (by omega), if_neg h]
  rw [← hlen]
  cases h with
  | sl _ _ _ _ sz0 vals hz0 hcap hm hA hn hE h hr =>
    have hsz : l ≠ [] → sz0 = sz := by
      intro hl
      obtain ⟨e, he⟩ := List.exists_mem_of_ne_nil _ hl
      rw [← hE e he]; exact okW_get hw he
    have hm' : (List.drop lo (List.take hi l)).length ≤ 9223372036854775807 := by rw [hlen]; omega
    refine .sl _ _ _ _ sz (fun i j => vals (lo + i) j) hz (by rw [hlen]; omega) hm' ?_ ?_ ?_ ?_ ?_
    · intro ad hh hc0
      split at hh
      · exact hA _ hh (by omega)
      · cases A with
        | none => cases hh
        | some b =>
          simp at hh
          subst hh
          have := hA _ rfl (by omega)
          unfold Addr.add; split <;> simp [this]
    · intro hh
      split at hh
      · have := hn hh
        simp [this]
      · cases A with
        | none => simp [hn rfl]
        | some b => simp at hh
    · intro e he
      obtain ⟨i, hi'⟩ := List.getElem?_of_mem he
      rw [hget] at hi'
      split at hi'
      · exact okW_get hw (List.mem_of_getElem? hi')
      · cases hi'
    · intro ad i e j x hh hi' hj
      rw [hget] at hi'
      split at hi'
      · rename_i hlt
        have hne : l ≠ [] := by rintro rfl; simp at hi'
        have hs := hsz hne
        rw [if_neg (by omega)] at hh
        cases A with
        | none => cases hh
        | some b =>
          simp at hh
          have hb := hA b rfl (by have := (List.getElem?_eq_some_iff.1 hi').1; omega)
          obtain ⟨bb, bo, bs⟩ := b
          simp at hb
          subst hb
          rw [show (⟨bb, bo, none⟩ : Addr) = at_ bb bo from rfl, at_add] at hh
          subst hh
          obtain ⟨k1, k2, k3⟩ := h _ (lo + i) e j x rfl hi' hj
          rw [hs] at k2 k3
          have e1 : bo + lo * sz + (i * sz + j) = bo + ((lo + i) * sz + j) := by rw [Nat.add_mul]; omega
          show x.isElt = true ∧ bo + lo * sz + (i * sz + j) < g.imm bb ∧ w.cell? (at_ bb (bo + lo * sz + (i * sz + j))) = _
          rw [e1]
          exact ⟨k1, k2, k3⟩
      · cases hi'
    · intro i e j x hi' hj
      rw [hget] at hi'
      split at hi'
      · exact hr _ e j x hi' hj
      · cases hi'
theorem snd_slc {sz : Nat} {x : Src} {lo hi mx : Option Src} {d : Dl} (hc : chkOp P o.op (.slc sz x lo hi mx) = true) (hI : Inv w g ow st a) {call : CallF} (hd : delta call st (.slc sz x lo hi mx) = some d) {Q : Exit → Act → World → Prop} :
    o.wp P a w (Nxt w g ow st.h.length (d.ap o.dst st)) Q := by
  cases hop : o.op <;> rw [hop] at hc <;> try (simp [chkOp] at hc; done)
  rename_i t y lo' hi' mx'
  simp only [chkOp] at hc
  split at hc
  · rename_i e he
    simp at hc
    obtain ⟨⟨⟨⟨⟨⟨hs, hz⟩, c1⟩, c2⟩, c3⟩, c4⟩, c5⟩ := hc
    have ht := elem_of he
    have hmi : (mx'.map a.eval).isSome = true → (hi'.map a.eval).isSome = true := by
      cases mx' <;> cases hi' <;> simp at c5 ⊢
    simp only [delta] at hd
    split at hd
    · rename_i tg l ex
      split at hd
      · rename_i hw
        split at hd
        · rename_i m hm
          split at hd
          · rename_i h hh
            split at hd
            · rename_i b hb
              obtain rfl := Option.some.inj hd
              have h1 := (ev_spec hI c1 ex).1
              generalize hq : a.eval y = q at h1
              obtain ⟨bm, km⟩ := bound_spec hI c4 hm
              obtain ⟨bh, kh⟩ := bound_spec hI c3 hh
              obtain ⟨bb, kb⟩ := bound_spec hI c2 hb
              have hVR := h1
              cases h1 with
              | sl _ _ A c sz0 vals hz0 hcap hmm hA hn hE h' hr =>
                -- the real bound of the capacity
                obtain ⟨M, hM, hM1, hM2, hM3⟩ : ∃ M, IsBd (mx'.map a.eval) c M ∧ h ≤ M ∧ M ≤ c ∧ (mx'.isSome = true → M = m) := by
                  cases mx' with
                  | none =>
                    have hm0 : m = l.length := bm
                    refine ⟨c, rfl, ?_, Nat.le_refl _, by simp⟩
                    cases hi' with
                    | none => have : h = l.length := bh; omega
                    | some z => have := kh rfl; omega
                  | some z =>
                    have hle : m ≤ l.length := km rfl
                    refine ⟨m, bm, ?_, by omega, fun _ => rfl⟩
                    cases hi' with
                    | none => simp at c5
                    | some z => exact kh rfl
                have hbh : b ≤ h := by
                  cases lo' with
                  | none => have : b = 0 := bb; omega
                  | some z => exact kb rfl
                have hhl : h ≤ l.length := by
                  cases hi' with
                  | none => have : h = l.length := bh; omega
                  | some z =>
                    have := kh rfl
                    cases mx' with
                    | none => have : m = l.length := bm; omega
                    | some z => have := km rfl; omega
                have hrun := run_slc (P := P) (w := w) ht hs A bb bh hM hbh hM1 hM2 hmi
                refine wp_val (w' := w) (v := .slice (if M = b then A else A.map (·.add (b * sz))) (h - b) (M - b)) ?_ (hI.nx0 o.dst ⟨hVR.piece _ hw hz hbh hhl hM1 hM2, rfl, ?_⟩)
                · unfold execOp; rw [hop]
                  simp only [hq, Sem.run_bind, hrun, Result.andThen_ok]
                  rfl
                · intro w' g' ow' q p sz' s l' A' n' c' hs'
                  by_cases hown : mx.isSome = true ∧ m = h
                  · rw [if_pos hown] at hs'
                    cases hs'
                    refine ⟨hz, fun hh' => ?_⟩
                    exfalso
                    have hms : mx'.isSome = true := by cases mx' <;> cases mx <;> simp [chkSO] at c4 hown ⊢
                    have := hM3 hms
                    rcases hh' with hh' | hh'
                    · omega
                    · cases hh'
                  · rw [if_neg hown] at hs'
                    cases hs'
            · cases hd
          · cases hd
        · cases hd
      · cases hd
    · rename_i ag s i off n ex
      split at hd
      · rename_i hs2
        subst hs2
        split at hd
        · rename_i m hm
          split at hd
          · rename_i h hh
            split at hd
            · rename_i b hb
              have h1 := (ev_spec hI c1 ex).1
              generalize hq : a.eval y = q at h1
              obtain ⟨bm, km⟩ := bound_spec hI c4 hm
              obtain ⟨bh, kh⟩ := bound_spec hI c3 hh
              obtain ⟨bb, kb⟩ := bound_spec hI c2 hb
              cases h1 with
              | asl _ _ _ _ _ c hi2 hcn hmm hrow =>
                have hmn : m ≤ n := by
                  cases mx' with
                  | none => have : m = n := bm; omega
                  | some z => exact km rfl
                have hhm : h ≤ m := by
                  cases hi' with
                  | none =>
                    have h0 : h = n := bh
                    cases mx' with
                    | none => have : m = n := bm; omega
                    | some z => simp at c5
                  | some z => exact kh rfl
                have hbh : b ≤ h := by
                  cases lo' with
                  | none => have : b = 0 := bb; omega
                  | some z => exact kb rfl
                obtain ⟨M, hM, hM1, hM2⟩ : ∃ M, IsBd (mx'.map a.eval) c M ∧ h ≤ M ∧ M ≤ c := by
                  cases mx' with
                  | none => exact ⟨c, rfl, by omega, Nat.le_refl _⟩
                  | some z => exact ⟨m, bm, hhm, by omega⟩
                have hrun := run_slc (P := P) (w := w) ht hs (some (at_ (g.nu i) off)) bb bh hM hbh hM1 hM2 hmi
                have hexec : (execOp a.eval o).run P w = .ok (.value (.slice (if M = b then some (at_ (g.nu i) off) else (some (at_ (g.nu i) off)).map (·.add (b * s))) (h - b) (M - b))) w := by
                  unfold execOp; rw [hop]
                  simp only [hq, Sem.run_bind, hrun, Result.andThen_ok]
                  rfl
                split at hd
                · obtain rfl := Option.some.inj hd
                  exact wp_val hexec (hI.nx0 o.dst ⟨.junk _, rfl, fun w' g' ow' q p sz s l A n c hs => by cases hs⟩)
                · rename_i hmx
                  have hmx' : mx' = none := by cases mx' <;> cases mx <;> simp [chkSO] at c4 hmx ⊢
                  subst hmx'
                  have hMc : M = c := hM
                  subst hMc
                  split at hd
                  · rename_i hemp
                    obtain rfl := Option.some.inj hd
                    refine wp_val hexec (hI.nx0 o.dst (cellR ?_ rfl rfl))
                    have e0 : h - b = 0 := hemp.1
                    rw [e0]
                    refine .sl .shr [] _ (M - b) 1 (fun _ _ => default) (by decide) (by simp) (by simp) (fun ad had _ => ?_) (fun _ => rfl) (by simp) (by simp) (by simp)
                    split at had
                    · cases had; rfl
                    · simp only [Option.map_some, at_add] at had; cases had; rfl
                  · rename_i hne
                    obtain rfl := Option.some.inj hd
                    have hval : (if M = b then some (at_ (g.nu i) off) else (some (at_ (g.nu i) off)).map (·.add (b * s))) = some (at_ (g.nu i) (off + b * s)) := by
                      split
                      · rename_i hMb
                        have : b = 0 := by
                          rcases Nat.eq_zero_or_pos b with h0 | h0
                          · exact h0
                          · exact absurd ⟨by omega, by omega⟩ hne
                        subst this
                        simp
                      · simp only [Option.map_some, at_add]
                    rw [hval] at hexec
                    refine wp_val hexec (hI.nx0 o.dst (cellR (.asl ag s i _ _ (M - b) hi2 (by omega) (by omega) ?_) rfl rfl))
                    obtain ⟨vs, ty, fr, r1, r2⟩ := hrow
                    refine ⟨vs, ty, fr, r1, ?_⟩
                    have : b * s + (M - b) * s = M * s := by rw [← Nat.add_mul]; congr 1; omega
                    omega
            · cases hd
          · cases hd
        · cases hd
      · cases hd
    · cases hd
  · cases hc
end
end Go.T
/- Operations of the small machine: addresses, elements, fields, functions. -/
set_option linter.unusedVariables false
set_option linter.unusedSimpArgs false
set_option maxRecDepth 10000
namespace Go.T
section
variable {P : Program} {w : World} {g : Gh} {ow : Ow} {st : St} {a : Act} {o : Oper} {dst : Option Nat}
theorem snd_sls {x : Src} {lo hi : Option Src} {d : Dl} (hc : chkOp P o.op (.sls x lo hi) = true) (hI : Inv w g ow st a) {call : CallF} (hd : delta call st (.sls x lo hi) = some d) {Q : Exit → Act → World → Prop} :
    o.wp P a w (Nxt w g ow st.h.length (d.ap o.dst st)) Q := by
  cases hop : o.op <;> rw [hop] at hc <;> try (simp [chkOp] at hc; done)
  rename_i t y lo' hi' mx'
  cases mx' <;> simp [chkOp] at hc
  obtain ⟨⟨⟨hs, c1⟩, c2⟩, c3⟩ := hc
  have ht := isStr_of hs
  simp only [delta] at hd
  split at hd
  · rename_i s ex
    split at hd
    · rename_i h hh
      split at hd
      · rename_i b hb
        obtain rfl := Option.some.inj hd
        have h1 := (ev_spec hI c1 ex).1.str_inv
        obtain ⟨bh, kh⟩ := bound_spec hI c3 hh
        obtain ⟨bb, kb⟩ := bound_spec hI c2 hb
        have hbh : b ≤ h := by
          cases lo' with
          | none => have : b = 0 := bb; omega
          | some z => exact kb rfl
        have hhs : h ≤ s.size := by
          cases hi' with
          | none => have : h = s.size := bh; omega
          | some z => exact kh rfl
        have hb2 := run_bounds (P := P) (w := w) (mx := none) (cap := s.size) (m := s.size) false bb bh rfl hbh hhs (Nat.le_refl _) (by simp)
        refine wp_val (w' := w) (v := .string (s.extract b h)) ?_ (hI.nx0 o.dst (cellR (.str _) rfl rfl))
        unfold execOp; rw [hop]
        simp [h1, Instr.sliceAt, Instr.slice, run_underlying ht, hb2]
      · cases hd
    · cases hd
  · cases hd
/-- An operand as an address. -/
theorem ad_spec (hI : Inv w g ow st a) {o : Operand} {x : Src} (hc : chkS o x = true) : 
    (∀ i off, ad st.t x = .ptr i off → a.eval o = .pointer (some (at_ (g.nu i) off)) ∧ i < st.h.length) ∧
    (∀ cs, ad st.t x = .cp cs → VR w g st.h.length (.cp cs) (a.eval o)) ∧
    (∀ f cs, ad st.t x = .fn f cs → VR w g st.h.length (.fn f cs) (a.eval o)) ∧
    (∀ b off, ad st.t x = .lp b off → ∀ cs, sl st.t b = .lbox cs → ∃ k, a.tmps.getD b undef = .pointer (some (at_ k 0)) ∧ a.eval o = .pointer (some (at_ k off))) := by
  unfold chkS at hc
  split at hc
  · rename_i t t'
    obtain rfl := eq_of_beq hc
    have hj := hI.slot t
    have he : a.eval (.tmp t) = a.tmps.getD t undef := rfl
    simp only [ad, he]
    generalize hv : a.tmps.getD t undef = v at hj ⊢
    generalize hx : sl st.t t = x at hj ⊢
    cases x <;> simp only [SlotR] at hj
    case ptr i off =>
      refine ⟨?_, by simp, by simp, by simp⟩
      intro i' off' hh
      cases hh
      cases hj.1 with
      | ptr _ _ h => exact ⟨rfl, h⟩
    case cp cs => exact ⟨by simp, (by intro cs' h; cases h; exact hj.1), by simp, by simp⟩
    case fn f cs => exact ⟨by simp, by simp, (by intro f' cs' h; cases h; exact hj.1), by simp⟩
    case lp b off =>
      refine ⟨by simp, by simp, by simp, ?_⟩
      intro b' off' hh cs hb
      cases hh
      exact hj cs hb
    case lbox cs =>
      refine ⟨by simp, by simp, by simp, ?_⟩
      intro b' off' hh cs' hb
      cases hh
      obtain ⟨k, h1, h2⟩ := hj
      exact ⟨k, by rw [hv]; exact h1, h1⟩
    all_goals exact ⟨by simp, by simp, by simp, by simp⟩
  · rename_i v y
    simp only [ad]
    have h := (cvalA_VR (w := w) (g := g) (m := st.h.length) hc)
    have he : a.eval (.const v) = v := rfl
    rw [he]
    refine ⟨?_, ?_, ?_, ?_⟩
    · intro i off hh
      rw [hh] at h
      cases h.1 with
      | ptr _ _ h' => exact ⟨rfl, h'⟩
    · intro cs hh; rw [hh] at h; exact h.1
    · intro f cs hh; rw [hh] at h; exact h.1
    · intro b off hh
      rw [hh] at h
      exact absurd h.2.1 (by simp [plainV])
  · rename_i f f'
    obtain rfl := eq_of_beq hc
    simp only [ad]
    refine ⟨by simp, by simp, ?_, by simp⟩
    intro f2 cs hh
    cases hh
    exact .fn _ [] #[] rfl (by simp) (by simp)
  · cases hc
theorem fields_of {t : TypeId} {fs : Array Field} (h : fieldsOf P t = some fs) : P.underlying t = some (.struct fs) := by
  unfold fieldsOf at h
  split at h
  · obtain rfl := Option.some.inj h; assumption
  · cases h
theorem info_of {t : TypeId} {n : Nat} (h : szOf P t = some n) : ∃ i, P.info? t = some i ∧ i.size = n := by
  unfold szOf at h
  cases hi : P.info? t with
  | none => rw [hi] at h; cases h
  | some i => rw [hi] at h; exact ⟨i, rfl, by simpa using h⟩
theorem run_fa {t : TypeId} {fs : Array Field} {i : Nat} {f : Field} (ht : P.underlying t = some (.struct fs)) (hf : fs[i]? = some f) {n : Nat} (hs : szOf P f.type = some n) (hn : 0 < n) (b o : Nat) :
    (Instr.fieldAt t (.pointer (some (at_ b o))) i).run P w = .ok (.pointer (some (at_ b (o + f.offset)))) w := by
  obtain ⟨ti, h1, h2⟩ := info_of hs
  have hne : ti.size ≠ 0 := by omega
  simp [Instr.fieldAt, run_underlying ht, hf, Instr.sureAddr, fieldPlace, sizeOf, typeInfo, h1, hne, at_add]
theorem VR.cpDrop {m : Nat} {cs : List TV} {b o : Nat} (off : Nat) (h : VR w g m (.cp cs) (.pointer (some (at_ b o)))) : VR w g m (.cp (cs.drop off)) (.pointer (some (at_ b (o + off)))) := by
  cases h with
  | cp _ _ _ vals h hr =>
    refine .cp _ _ _ (fun j => vals (off + j)) (fun j x hx => ?_) (fun j x hx => ?_)
    · rw [List.getElem?_drop] at hx
      obtain ⟨h1, h2, h3⟩ := h _ x hx
      rw [← Nat.add_assoc] at h2 h3
      exact ⟨h1, h2, h3⟩
    · rw [List.getElem?_drop] at hx
      exact hr _ x hx
theorem snd_fa {off : Nat} {x : Src} {d : Dl} (hc : chkOp P o.op (.fa off x) = true) (hI : Inv w g ow st a) {call : CallF} (hd : delta call st (.fa off x) = some d) {Q : Exit → Act → World → Prop} :
    o.wp P a w (Nxt w g ow st.h.length (d.ap o.dst st)) Q := by
  cases hop : o.op <;> rw [hop] at hc <;> try (simp [chkOp] at hc; done)
  rename_i t y i
  simp only [chkOp] at hc
  split at hc
  · rename_i fs hfs
    have ht := fields_of hfs
    simp at hc
    obtain ⟨hc, c1⟩ := hc
    split at hc
    · rename_i f hf
      simp at hc
      obtain ⟨rfl, hc⟩ := hc
      split at hc
      · rename_i n hn
        simp at hc
        obtain ⟨s1, s2, s3, s4⟩ := ad_spec hI c1
        have hex : ∀ b o', a.eval y = .pointer (some (at_ b o')) → (execOp a.eval o).run P w = .ok (.value (.pointer (some (at_ b (o' + f.offset))))) w := by
          intro b o' h
          unfold execOp; rw [hop]
          simp only [h, Sem.run_bind, run_fa (P := P) (w := w) ht hf hn hc, Result.andThen_ok]
          rfl
        simp only [delta] at hd
        split at hd
        · rename_i j o' e
          obtain rfl := Option.some.inj hd
          obtain ⟨h1, h2⟩ := s1 _ _ e
          exact wp_val (hex _ _ h1) (hI.nx0 o.dst (cellR (.ptr _ _ h2) rfl rfl))
        · rename_i cs e
          obtain rfl := Option.some.inj hd
          have h1 := s2 _ e
          generalize hq : a.eval y = q at h1
          have h1' := h1
          cases h1 with
          | cp _ b o' vals h hr =>
            refine wp_val (hex _ _ hq) (hI.nx0 o.dst (cellR (h1'.cpDrop f.offset) rfl rfl))
        · rename_i b o' e
          split at hd
          · rename_i cs hb
            obtain rfl := Option.some.inj hd
            obtain ⟨k, k1, k2⟩ := s4 _ _ e cs hb
            refine wp_val (hex _ _ k2) ⟨g, ow, hI.refl, ?_⟩
            cases hdst : o.dst with
            | none => exact ⟨hI.defers, hI.len, hI.slot, hI.box, hI.bd, hI.base⟩
            | some i => exact hI.putLp i b (o' + f.offset) (fun cs' hb' => ⟨k, k1, rfl⟩)
          · cases hd
        · cases hd
      · cases hc
    · cases hc
  · cases hc
theorem snd_nilc {x : Src} {d : Dl} (hc : chkOp P o.op (.nilc x) = true) (hI : Inv w g ow st a) {call : CallF} (hd : delta call st (.nilc x) = some d) {Q : Exit → Act → World → Prop} :
    o.wp P a w (Nxt w g ow st.h.length (d.ap o.dst st)) Q := by
  cases hop : o.op <;> rw [hop] at hc <;> try (simp [chkOp] at hc; done)
  rename_i y
  simp only [chkOp] at hc
  obtain ⟨s1, s2, s3, s4⟩ := ad_spec hI hc
  have hex : ∀ b, a.eval y = .pointer (some b) → (execOp a.eval o).run P w = .ok (.value (.pointer (some b))) w := by
    intro b h
    unfold execOp; rw [hop]; simp only [h]; rfl
  simp only [delta] at hd
  split at hd
  · rename_i j o' e
    obtain rfl := Option.some.inj hd
    obtain ⟨h1, h2⟩ := s1 _ _ e
    exact wp_val (hex _ h1) (hI.nx0 o.dst (cellR (.ptr _ _ h2) rfl rfl))
  · rename_i cs e
    obtain rfl := Option.some.inj hd
    have h1 := s2 _ e
    generalize hq : a.eval y = q at h1
    have h1' := h1
    cases h1 with
    | cp _ b o' vals h hr => exact wp_val (hex _ hq) (hI.nx0 o.dst (cellR h1' rfl rfl))
  · rename_i b o' e
    split at hd
    · rename_i cs hb
      obtain rfl := Option.some.inj hd
      obtain ⟨k, k1, k2⟩ := s4 _ _ e cs hb
      refine wp_val (hex _ k2) ⟨g, ow, hI.refl, ?_⟩
      cases hdst : o.dst with
      | none => exact ⟨hI.defers, hI.len, hI.slot, hI.box, hI.bd, hI.base⟩
      | some i => exact hI.putLp i b o' (fun cs' hb' => ⟨k, k1, rfl⟩)
    · cases hd
  · rename_i f cs e
    obtain rfl := Option.some.inj hd
    have h1 := s3 _ _ e
    generalize hq : a.eval y = q at h1
    have h1' := h1
    cases h1 with
    | fn _ _ vs hl h hr =>
      refine wp_val (v := .func (.func f) #[] vs) (w' := w) ?_ (hI.nx0 o.dst (cellR h1' rfl rfl))
      unfold execOp; rw [hop]; simp only [hq]; rfl
  · cases hd
theorem run_ia {t e : TypeId} {sz : Nat} (ht : P.underlying t = some (.slice e)) (hs : szOf P e = some sz) (b o n c : Nat) (k : IntKind) (i : Int) (h0 : 0 ≤ i) (h1 : i < n) :
    (Instr.indexAt t (.slice (some (at_ b o)) n c) (.int k i)).run P w = .ok (.pointer (some (at_ b (o + i.toNat * sz)))) w := by
  obtain ⟨ti, h2, h3⟩ := info_of hs
  have h1' : i < (n : Int) := h1
  simp [Instr.indexAt, asIntOf, run_underlying ht, h0, h1', sizeOf, typeInfo, h2, h3, at_add]
theorem snd_ia {sz : Nat} {x i : Src} {d : Dl} (hc : chkOp P o.op (.ia sz x i) = true) (hI : Inv w g ow st a) {call : CallF} (hd : delta call st (.ia sz x i) = some d) {Q : Exit → Act → World → Prop} :
    o.wp P a w (Nxt w g ow st.h.length (d.ap o.dst st)) Q := by
  cases hop : o.op <;> rw [hop] at hc <;> try (simp [chkOp] at hc; done)
  rename_i t y z
  simp only [chkOp] at hc
  split at hc
  · rename_i el hel
    have ht := elem_of hel
    simp at hc
    obtain ⟨⟨⟨hs, hz⟩, c1⟩, c2⟩ := hc
    simp only [delta] at hd
    split at hd
    · rename_i tg l k n e1 e2
      split at hd
      · rename_i h0
        split at hd
        · rename_i e he
          split at hd
          · rename_i hw
            obtain rfl := Option.some.inj hd
            have h1 := (ev_spec hI c1 e1).1
            have h2 := (ev_spec hI c2 e2).1.int_inv
            generalize hq : a.eval y = q at h1
            have hlt : n.toNat < l.length := (List.getElem?_eq_some_iff.1 he).1
            cases h1 with
            | sl _ _ A c sz0 vals hz0 hcap hmm hA hn hE h' hr =>
              cases A with
              | none => have := hn rfl; subst this; simp at he
              | some ad =>
                obtain ⟨b, off, sp⟩ := ad
                obtain rfl : sp = none := hA _ rfl (by have := (List.getElem?_eq_some_iff.1 he).1; omega)
                have hs0 : sz0 = sz := by rw [← hE e (List.mem_of_getElem? he)]; exact hw
                subst hs0
                have hrun := run_ia (P := P) (w := w) ht hs b off l.length c k n h0 (by omega)
                refine wp_val (w' := w) (v := .pointer (some (at_ b (off + n.toNat * sz0)))) ?_ (hI.nx0 o.dst (cellR (.cp _ _ _ (fun j => vals n.toNat j) (fun j x hx => ?_) (fun j x hx => hr _ e j x he hx)) rfl rfl))
                · unfold execOp; rw [hop]
                  simp only [hq, h2, Sem.run_bind, hrun, Result.andThen_ok]
                  rfl
                · obtain ⟨k1, k2, k3⟩ := h' _ _ e j x rfl he hx
                  rw [← Nat.add_assoc] at k2 k3
                  exact ⟨k1, k2, k3⟩
          · cases hd
        · cases hd
      · cases hd
    · rename_i ag s b off m k n e1 e2
      split at hd
      · rename_i hb
        obtain ⟨h0, hlt, rfl⟩ := hb
        obtain rfl := Option.some.inj hd
        have h1 := (ev_spec hI c1 e1).1
        have h2 := (ev_spec hI c2 e2).1.int_inv
        generalize hq : a.eval y = q at h1
        cases h1 with
        | asl _ _ _ _ _ c hi2 hcn hmm hrow =>
          have hrun := run_ia (P := P) (w := w) ht hs (g.nu b) off m c k n h0 hlt
          refine wp_val (w' := w) (v := .pointer (some (at_ (g.nu b) (off + n.toNat * s)))) ?_ (hI.nx0 o.dst (cellR (.ptr _ _ hi2) rfl rfl))
          unfold execOp; rw [hop]
          simp only [hq, h2, Sem.run_bind, hrun, Result.andThen_ok]
          rfl
      · cases hd
    · cases hd
  · cases hc
theorem snd_sx {x i : Src} {d : Dl} (hc : chkOp P o.op (.sx x i) = true) (hI : Inv w g ow st a) {call : CallF} (hd : delta call st (.sx x i) = some d) {Q : Exit → Act → World → Prop} :
    o.wp P a w (Nxt w g ow st.h.length (d.ap o.dst st)) Q := by
  cases hop : o.op <;> rw [hop] at hc <;> try (simp [chkOp] at hc; done)
  rename_i t y z
  simp [chkOp] at hc
  obtain ⟨⟨hs, c1⟩, c2⟩ := hc
  have ht := isStr_of hs
  simp only [delta] at hd
  split at hd
  · rename_i s k n e1 e2
    split at hd
    · rename_i h0
      split at hd
      · rename_i b hb
        obtain rfl := Option.some.inj hd
        have h1 := (ev_spec hI c1 e1).1.str_inv
        have h2 := (ev_spec hI c2 e2).1.int_inv
        have hlt : n.toNat < s.size := (Array.getElem?_eq_some_iff.1 hb).1
        have hg : s[n.toNat]? = some b := by
          have := (Array.getElem?_eq_some_iff.1 hb).2
          rw [getElem?_pos s n.toNat hlt]
          exact congrArg some this
        refine wp_val (w' := w) (v := .int .u8 b.toNat) ?_ (hI.nx0 o.dst (cellR (.int _ _) rfl rfl))
        unfold execOp; rw [hop]
        simp [h1, h2, Instr.index, asIntOf, run_underlying ht, h0, hg]
      · cases hd
    · cases hd
  · cases hd
theorem chkSs_get {os : List Operand} {xs : List Src} (h : chkSs os xs = true) : os.length = xs.length ∧ ∀ (j : Nat) (x : Operand) (s : Src), os[j]? = some x → xs[j]? = some s → chkS x s = true := by
  induction os generalizing xs with
  | nil => cases xs <;> simp [chkSs] at h ⊢
  | cons o os ih =>
    cases xs with
    | nil => simp [chkSs] at h
    | cons x xs =>
      simp [chkSs] at h
      obtain ⟨h1, h2⟩ := ih h.2
      refine ⟨by simp [h1], fun j y s hy hs => ?_⟩
      cases j with
      | zero => simp at hy hs; subst hy; subst hs; exact h.1
      | succ j => simp at hy hs; exact h2 j y s hy hs
theorem evs_spec (hI : Inv w g ow st a) : ∀ {os : List Operand} {xs : List Src} {vs : List TV}, chkSs os xs = true → evs st.t xs = some vs →
    vs.length = os.length ∧ ∀ (j : Nat) (x : TV) (v : Value), vs[j]? = some x → (os.map a.eval)[j]? = some v → VR w g st.h.length x v ∧ plainV x = true ∧ ∀ w' g' ow' q, Owns w' g' ow' q x v := by
  intro os
  induction os with
  | nil =>
    intro xs vs hc h
    cases xs <;> simp [chkSs] at hc
    simp [evs] at h
    subst h
    exact ⟨rfl, by simp⟩
  | cons o os ih =>
    intro xs vs hc h
    cases xs with
    | nil => simp [chkSs] at hc
    | cons x xs =>
      simp [chkSs] at hc
      simp only [evs] at h
      split at h
      · rename_i v us e1 e2
        obtain rfl := Option.some.inj h
        obtain ⟨h1, h2⟩ := ih hc.2 e2
        refine ⟨by simp [h1], fun j y u hy hu => ?_⟩
        cases j with
        | zero => simp at hy hu; subst hy; subst hu; exact ev_spec hI hc.1 e1
        | succ j => simp only [List.getElem?_cons_succ, List.map_cons] at hy hu; exact h2 j y u hy hu
      · cases h
end
end Go.T
/- Operations of the small machine: functions, fields, components, reads of memory. -/
set_option linter.unusedVariables false
set_option linter.unusedSimpArgs false
set_option maxRecDepth 10000
namespace Go.T
section
variable {P : Program} {w : World} {g : Gh} {ow : Ow} {st : St} {a : Act} {o : Oper} {dst : Option Nat}
theorem snd_mkf {f : Nat} {cs : List Src} {d : Dl} (hc : chkOp P o.op (.mkf f cs) = true) (hI : Inv w g ow st a) {call : CallF} (hd : delta call st (.mkf f cs) = some d) {Q : Exit → Act → World → Prop} :
    o.wp P a w (Nxt w g ow st.h.length (d.ap o.dst st)) Q := by
  cases hop : o.op <;> rw [hop] at hc <;> try (simp [chkOp] at hc; done)
  rename_i fn fi ca
  cases fn <;> simp [chkOp] at hc
  rename_i f'
  obtain ⟨⟨rfl, hfi⟩, hc⟩ := hc
  subst hfi
  simp only [delta] at hd
  split at hd
  · rename_i vs e
    split at hd
    · rename_i hall
      obtain rfl := Option.some.inj hd
      obtain ⟨h1, h2⟩ := evs_spec hI hc e
      have hget : ∀ (j : Nat) (x : TV) (v : Value), vs[j]? = some x → (ca.map a.eval)[j]? = some v → VR w g st.h.length x v ∧ plainV x = true ∧ ∀ w' g' ow' q, Owns w' g' ow' q x v := fun j x v hx hv => h2 j x v hx (by simpa using hv)
      refine wp_val (w' := w) (v := .func (.func f') #[] (ca.map a.eval)) ?_ (hI.nx0 o.dst (cellR (.fn f' vs _ (by simpa using h1) (fun j x v hx hv => ?_) (fun j x v hx hv => (hget j x v hx hv).1)) rfl rfl))
      · unfold execOp; rw [hop]; simp [Instr.makeFunc]
      · simpa using all_get hall hx
    · cases hd
  · cases hd
theorem snd_mn {x y : Src} {d : Dl} (hc : chkOp P o.op (.mn x y) = true) (hI : Inv w g ow st a) {call : CallF} (hd : delta call st (.mn x y) = some d) {Q : Exit → Act → World → Prop} :
    o.wp P a w (Nxt w g ow st.h.length (d.ap o.dst st)) Q := by
  cases hop : o.op <;> rw [hop] at hc <;> try (simp [chkOp] at hc; done)
  rename_i cl
  obtain ⟨cal, as, ts⟩ := cl
  cases cal <;> try (simp [chkOp] at hc; done)
  rename_i bu
  cases bu <;> simp [chkOp] at hc
  split at hc
  · rename_i p q has
    simp at hc
    obtain rfl : as = #[p, q] := Array.toList_inj.1 has
    simp only [delta] at hd
    split at hd
    · rename_i k b k' c e1 e2
      obtain rfl := Option.some.inj hd
      have h1 := (ev_spec hI hc.1 e1).1.int_inv
      have h2 := (ev_spec hI hc.2 e2).1.int_inv
      refine wp_val (v := .int k (if c < b then c else b)) (w' := w) ?_ (hI.nx0 o.dst (cellR (.int _ _) rfl rfl))
      unfold execOp; rw [hop]
      simp [resolve, invoke, builtin, Builtin.min_, Builtin.min2, h1, h2]
    · cases hd
  · cases hc
theorem snd_mx {x y : Src} {d : Dl} (hc : chkOp P o.op (.mx x y) = true) (hI : Inv w g ow st a) {call : CallF} (hd : delta call st (.mx x y) = some d) {Q : Exit → Act → World → Prop} :
    o.wp P a w (Nxt w g ow st.h.length (d.ap o.dst st)) Q := by
  cases hop : o.op <;> rw [hop] at hc <;> try (simp [chkOp] at hc; done)
  rename_i cl
  obtain ⟨cal, as, ts⟩ := cl
  cases cal <;> try (simp [chkOp] at hc; done)
  rename_i bu
  cases bu <;> simp [chkOp] at hc
  split at hc
  · rename_i p q has
    simp at hc
    obtain rfl : as = #[p, q] := Array.toList_inj.1 has
    simp only [delta] at hd
    split at hd
    · rename_i k b k' c e1 e2
      obtain rfl := Option.some.inj hd
      have h1 := (ev_spec hI hc.1 e1).1.int_inv
      have h2 := (ev_spec hI hc.2 e2).1.int_inv
      refine wp_val (v := .int k (if c > b then c else b)) (w' := w) ?_ (hI.nx0 o.dst (cellR (.int _ _) rfl rfl))
      unfold execOp; rw [hop]
      simp [resolve, invoke, builtin, Builtin.max_, Builtin.max2, h1, h2]
    · cases hd
  · cases hc
/-- A variable's type, as it lies. -/
theorem lay_of {t : TypeId} {ag : Bool} {n : Nat} (h : lay P t ag n = true) : szOf P t = some n ∧ (∀ w, (isAgg t).run P w = .ok ag w) ∧ (ag = true ∨ n = 1) := by
  unfold lay at h
  simp at h
  obtain ⟨⟨h1, h2⟩, h3⟩ := h
  refine ⟨h1, fun w => ?_, h3⟩
  unfold aggB at h2
  unfold isAgg
  split at h2
  · rename_i fs hd
    obtain rfl := Option.some.inj h2
    rw [Sem.run_bind, run_underlying hd]; rfl
  · rename_i n2 e hd
    obtain rfl := Option.some.inj h2
    rw [Sem.run_bind, run_underlying hd]; rfl
  · rename_i d h1 h2' hd
    obtain rfl := Option.some.inj h2
    rw [Sem.run_bind, run_underlying hd]
    cases d <;> first | rfl | exact (h1 _ rfl).elim | exact (h2' _ _ rfl).elim
  · cases h2
/-- Cells as a value. -/
def packV (ag : Bool) (vs : List Value) : Value := if ag then .agg vs.toArray else vs.headD undef
theorem run_ld {t : TypeId} {ag : Bool} {n : Nat} (hl : lay P t ag n = true) {b o : Nat} {vs : List Value} (hr : w.rangeAt b o vs) (hn : vs.length = n) : (Instr.loadAt t (.pointer (some (at_ b o)))).run P w = .ok (packV ag vs) w := by
  obtain ⟨h1, h2, h3⟩ := lay_of hl
  obtain ⟨ti, h4, h5⟩ := info_of h1
  cases ag with
  | true =>
    have hc : (loadCells (at_ b o) vs.length).run P w = .ok vs.toArray w := run_loadCells_list (P := P) w (at_ b o) vs (fun j v hv => by rw [at_add]; exact hr j v hv)
    rw [hn] at hc
    simp [Instr.loadAt, Instr.sureAddr, loadVar, h2, sizeOf, typeInfo, h4, h5, hc, packV]
  | false =>
    have hn1 : n = 1 := h3.resolve_left (by simp)
    match vs, hn with
    | [v], _ =>
      have h0 := hr 0 v rfl
      rw [Nat.add_zero] at h0
      have h0' : w.cell? (at_ b o) = some v := h0
      simp [Instr.loadAt, Instr.sureAddr, loadVar, h2, packV, h0']
    | [], h => simp at h; omega
    | _ :: _ :: _, h => simp at h; omega
theorem VR.pack {m : Nat} {ag : Bool} {us : List TV} {vs : List Value} (hl : us.length = vs.length) (hag : ag = true ∨ us.length = 1) (h : ∀ (j : Nat) (x : TV) (v : Value), us[j]? = some x → vs[j]? = some v → x.isCell = true ∧ VR w g m x v) :
    VR w g m (pack ag us) (packV ag vs) ∧ plainV (pack ag us) = true ∧ argOk (pack ag us) = true := by
  cases ag with
  | true =>
    have hc : ∀ x ∈ us, x.isCell = true := by
      intro x hx
      obtain ⟨j, hj⟩ := List.getElem?_of_mem hx
      have hlt : j < vs.length := by rw [← hl]; exact (List.getElem?_eq_some_iff.1 hj).1
      exact (h j x vs[j] hj (by simp [hlt])).1
    refine ⟨.agg _ _ (by simpa using hl) (fun j x v hx hv => (h j x v hx (by simpa using hv)).1) (fun j x v hx hv => (h j x v hx (by simpa using hv)).2), rfl, ?_⟩
    show us.all TV.isCell = true
    simpa using hc
  | false =>
    have h1 : us.length = 1 := hag.resolve_left (by simp)
    match us, vs, hl, h1 with
    | [x], [v], _, _ =>
      obtain ⟨c1, c2⟩ := h 0 x v rfl rfl
      refine ⟨c2, ?_, ?_⟩
      · show plainV x = true
        cases x <;> first | rfl | simp [TV.isCell] at c1
      · show argOk x = true
        cases x <;> first | rfl | simp [TV.isCell] at c1
theorem cut_some {cs us : List TV} {o n : Nat} (h : cut cs o n = some us) : o + n ≤ cs.length ∧ us.length = n ∧ ∀ j, us[j]? = if j < n then cs[o + j]? else none := by
  unfold cut at h
  split at h
  · rename_i hle
    obtain rfl := Option.some.inj h
    refine ⟨hle, by simp; omega, fun j => ?_⟩
    rw [List.getElem?_take, List.getElem?_drop]
  · cases h
/-- A part of a box. -/
theorem BoxR.cut {m : Nat} {q : List Nat} {cs us : List TV} {b o n : Nat} (h : BoxR w g m ow q cs b) (hc : cut cs o n = some us) :
    ∃ vs : List Value, w.rangeAt b o vs ∧ vs.length = n ∧ us.length = n ∧ ∀ (j : Nat) (x : TV) (v : Value), us[j]? = some x → vs[j]? = some v → x.isCell = true ∧ VR w g m x v ∧ Owns w g ow (q ++ [o + j]) x v := by
  obtain ⟨vs, ty, fr, hr, hl, hf, hi, ho, hcell⟩ := h
  obtain ⟨h1, h2, h3⟩ := cut_some hc
  refine ⟨(vs.toList.drop o).take n, ?_, by simp; omega, h2, ?_⟩
  · intro j v hv
    rw [List.getElem?_take] at hv
    split at hv
    · rw [List.getElem?_drop] at hv
      have := cell_of_row (o := o + j) hr
      rw [show (⟨b, o + j, none⟩ : Addr) = at_ b (o + j) from rfl, this]
      simpa using hv
    · cases hv
  · intro j x v hx hv
    rw [h3] at hx
    rw [List.getElem?_take] at hv
    split at hv
    · rename_i hj
      rw [if_pos hj] at hx
      rw [List.getElem?_drop] at hv
      exact hcell _ x v hx (by simpa using hv)
    · cases hv
theorem pack_shr {m : Nat} {ag : Bool} {us : List TV} {vs : List Value} (hl : us.length = vs.length) (hag : ag = true ∨ us.length = 1) (h : ∀ (j : Nat) (x : TV) (v : Value), us[j]? = some x → vs[j]? = some v → x.isCell = true ∧ VR w g m x v) :
    VR w g m (pack ag (us.map TV.shr0)) (packV ag vs) ∧ plainV (pack ag (us.map TV.shr0)) = true ∧ ∀ w' g' ow' q, Owns w' g' ow' q (pack ag (us.map TV.shr0)) (packV ag vs) := by
  have h' : ∀ (j : Nat) (x : TV) (v : Value), (us.map TV.shr0)[j]? = some x → vs[j]? = some v → x.isCell = true ∧ VR w g m x v := by
    intro j x v hx hv
    obtain ⟨y, hy, rfl⟩ := getElem?_map_some hx
    obtain ⟨c1, c2⟩ := h j y v hy hv
    exact ⟨by rw [shr0_isCell]; exact c1, c2.shr0⟩
  obtain ⟨p1, p2, p3⟩ := VR.pack (by simpa using hl) (by simpa using hag) h'
  refine ⟨p1, p2, fun w' g' ow' q => ?_⟩
  cases ag with
  | true =>
    refine owns_agg (fun x hx => ?_)
    obtain ⟨y, hy, rfl⟩ := List.mem_map.1 hx
    obtain ⟨j, hj⟩ := List.getElem?_of_mem hy
    have hlt : j < vs.length := by rw [← hl]; exact (List.getElem?_eq_some_iff.1 hj).1
    exact ⟨by rw [shr0_isCell]; exact (h j y vs[j] hj (by simp [hlt])).1, shr0_noOwn y⟩
  | false =>
    have h1 : us.length = 1 := hag.resolve_left (by simp)
    match us, vs, hl, h1 with
    | [x], [v], _, _ => exact owns_cell (by show x.shr0.isCell = true; rw [shr0_isCell]; exact (h 0 x v rfl rfl).1) (shr0_noOwn x)
/-- A read that takes nothing. -/
theorem ld_plain {t : TypeId} {y : Operand} {ag : Bool} {n b off : Nat} {us : List TV} {vs : List Value} (hop : o.op = .load t y) (hI : Inv w g ow st a) (hl : lay P t ag n = true) (hy : a.eval y = .pointer (some (at_ b off))) (hr : w.rangeAt b off vs) (h1 : vs.length = n) (h2 : us.length = n)
    (h : ∀ (j : Nat) (x : TV) (v : Value), us[j]? = some x → vs[j]? = some v → x.isCell = true ∧ VR w g st.h.length x v) {Q : Exit → Act → World → Prop} :
    o.wp P a w (Nxt w g ow st.h.length (({ v := pack ag (us.map TV.shr0) } : Dl).ap o.dst st)) Q := by
  have hag := (lay_of hl).2.2
  refine wp_val (w' := w) (v := packV ag vs) ?_ (hI.nx0 o.dst (pack_shr (by omega) (by rw [h2]; exact hag) h))
  unfold execOp; rw [hop]
  simp only [hy, Sem.run_bind, run_ld hl hr h1, Result.andThen_ok]
  rfl
theorem isElt_isCell {x : TV} (h : x.isElt = true) : x.isCell = true := by
  cases x <;> first | rfl | simp [TV.isElt, TV.isCell] at h
/-- The cells that never change. -/
theorem cp_range {m : Nat} {cs us : List TV} {v : Value} {n : Nat} (h : VR w g m (.cp cs) v) (hc : cut cs 0 n = some us) : ∃ b off vs, v = .pointer (some (at_ b off)) ∧ w.rangeAt b off vs ∧ vs.length = n ∧ us.length = n ∧
    ∀ (j : Nat) (x : TV) (v : Value), us[j]? = some x → vs[j]? = some v → x.isCell = true ∧ VR w g m x v := by
  obtain ⟨h1, h2, h3⟩ := cut_some hc
  cases h with
  | cp _ b off vals hh hr =>
    refine ⟨b, off, (List.range n).map vals, rfl, ?_, by simp, h2, ?_⟩
    · intro j v hv
      rw [List.getElem?_map] at hv
      by_cases hj : j < n
      · simp [hj] at hv
        subst hv
        obtain ⟨_, _, k⟩ := hh j (cs[j]'(by omega)) (by simp)
        exact k
      · simp [hj] at hv
    · intro j x v hx hv
      rw [h3] at hx
      split at hx
      · rename_i hj
        rw [Nat.zero_add] at hx
        simp [hj] at hv
        subst hv
        exact ⟨isElt_isCell (hh j x hx).1, hr j x hx⟩
      · cases hx
theorem snd_ldc {ag : Bool} {n : Nat} {p : Src} {d : Dl} (hc : chkOp P o.op (.ldc ag n p) = true) (hI : Inv w g ow st a) {call : CallF} (hd : delta call st (.ldc ag n p) = some d) {Q : Exit → Act → World → Prop} :
    o.wp P a w (Nxt w g ow st.h.length (d.ap o.dst st)) Q := by
  cases hop : o.op <;> rw [hop] at hc <;> try (simp [chkOp] at hc; done)
  rename_i t y
  simp [chkOp] at hc
  simp only [delta] at hd
  split at hd
  · rename_i cs e
    split at hd
    · rename_i us hcut
      obtain rfl := Option.some.inj hd
      have h1 := (ad_spec hI hc.2).2.1 _ e
      obtain ⟨b, off, vs, h2, h3, h4, h5, h6⟩ := cp_range h1 hcut
      exact ld_plain hop hI hc.1 h2 h3 h4 h5 h6
    · cases hd
  · cases hd
theorem run_part {t : TypeId} {ag : Bool} {n : Nat} (hl : lay P t ag n = true) (cs : Array Value) (off : Nat) (hle : off + n ≤ cs.size) (hn : 0 < n) : (part t cs off).run P w = .ok (packV ag ((cs.toList.drop off).take n)) w := by
  obtain ⟨h1, h2, h3⟩ := lay_of hl
  obtain ⟨ti, h4, h5⟩ := info_of h1
  cases ag with
  | true =>
    simp [part, h2, sizeOf, typeInfo, h4, h5, packV]
    apply Array.ext'
    simp [List.drop_take]
  | false =>
    have hn1 : n = 1 := h3.resolve_left (by simp)
    subst hn1
    have hlt : off < cs.size := by omega
    have : cs[off]? = some cs[off] := by simp [hlt]
    simp [part, h2, this, packV]
    rw [List.drop_eq_getElem_cons (by simpa using hlt)]
    simp
theorem snd_fld {ag : Bool} {n off : Nat} {x : Src} {d : Dl} (hc : chkOp P o.op (.fld ag n off x) = true) (hI : Inv w g ow st a) {call : CallF} (hd : delta call st (.fld ag n off x) = some d) {Q : Exit → Act → World → Prop} :
    o.wp P a w (Nxt w g ow st.h.length (d.ap o.dst st)) Q := by
  cases hop : o.op <;> rw [hop] at hc <;> try (simp [chkOp] at hc; done)
  rename_i t y i
  simp only [chkOp] at hc
  split at hc
  · rename_i fs hfs
    have ht := fields_of hfs
    simp at hc
    obtain ⟨hc, c1⟩ := hc
    split at hc
    · rename_i f hf
      simp at hc
      obtain ⟨⟨rfl, hl⟩, hn⟩ := hc
      simp only [delta] at hd
      split at hd
      · rename_i cs e
        split at hd
        · rename_i us hcut
          obtain rfl := Option.some.inj hd
          obtain ⟨h1, h1p, h1o⟩ := ev_spec hI c1 e
          generalize hq : a.eval y = q at h1 h1o
          obtain ⟨k1, k2, k3⟩ := cut_some hcut
          cases h1 with
          | agg _ vs hlen hcell hr =>
            have hrun := run_part (P := P) (w := w) hl vs f.offset (by omega) hn
            have hget : ∀ (j : Nat) (x : TV) (v : Value), us[j]? = some x → ((vs.toList.drop f.offset).take n)[j]? = some v → x.isCell = true ∧ VR w g st.h.length x v := by
              intro j x v hx hv
              rw [k3] at hx
              rw [List.getElem?_take] at hv
              split at hv
              · rename_i hj
                rw [if_pos hj] at hx
                rw [List.getElem?_drop] at hv
                have hv' : vs[f.offset + j]? = some v := by simpa using hv
                exact ⟨hcell _ x v hx hv', hr _ x v hx hv'⟩
              · cases hv
            obtain ⟨p1, p2, p3⟩ := VR.pack (ag := ag) (us := us) (vs := (vs.toList.drop f.offset).take n) (by simp; omega) (by have := (lay_of hl).2.2; rw [k2]; exact this) hget
            refine wp_val (w' := w) (v := packV ag ((vs.toList.drop f.offset).take n)) ?_ (hI.nx0 o.dst ⟨p1, p2, ?_⟩)
            · unfold execOp; rw [hop]
              simp [hq, Instr.field, run_underlying ht, hf, asAgg, hrun]
            · -- a part of what owns nothing
              intro w' g' ow' q
              have hpoor : ∀ (j : Nat) (x : TV) (v : Value), us[j]? = some x → ((vs.toList.drop f.offset).take n)[j]? = some v → ∀ q, Owns w' g' ow' q x v := by
                intro j x v hx hv q p sz s l A n' c hs
                have hx2 := hx
                rw [k3] at hx
                rw [List.getElem?_take] at hv
                split at hv
                · rename_i hj
                  rw [if_pos hj] at hx
                  rw [List.getElem?_drop] at hv
                  have hv' : vs[f.offset + j]? = some v := by simpa using hv
                  have := h1o w' g' (fun b => if ow' b = some (q ++ p) then some ([] ++ ((f.offset + j) :: p)) else none) [] ((f.offset + j) :: p) sz s l A n' c (.agg _ _ _ x v p _ _ hx hv' hs)
                  obtain ⟨z1, z2⟩ := this
                  refine ⟨z1, fun hh => ?_⟩
                  obtain ⟨ad, e1, e2, e3⟩ := z2 hh
                  refine ⟨ad, e1, ?_, e3⟩
                  by_cases hw2 : ow' ad.block = some (q ++ p)
                  · exact hw2
                  · simp [hw2] at e2
                · cases hv
              cases ag with
              | true =>
                intro p sz s l A n' c hs
                cases hs with
                | agg _ _ k x v p _ _ hx hv h' =>
                  have := hpoor k x v hx (by simpa using hv) (q ++ [k]) p sz s l A n' c h'
                  simpa using this
              | false =>
                have h1 : us.length = 1 := by rw [k2]; exact (lay_of hl).2.2.resolve_left (by simp)
                have hvl : ((vs.toList.drop f.offset).take n).length = 1 := by rw [← h1]; simp; omega
                match us, (vs.toList.drop f.offset).take n, h1, hvl, hpoor with
                | [x], [v], _, _, hp => exact hp 0 x v rfl rfl q
        · cases hd
      · cases hd
    · cases hc
  · cases hc
end
end Go.T
