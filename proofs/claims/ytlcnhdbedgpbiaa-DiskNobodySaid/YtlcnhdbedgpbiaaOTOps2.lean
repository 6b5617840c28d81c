/- Operations of the small machine that only look: what the model's do. -/
import Derived.Test.YtlcnhdbedgpbiaaOTRow
import Derived.Laws.BytesArg
set_option linter.unusedVariables false
set_option linter.unusedSimpArgs false
set_option maxRecDepth 10000
namespace Go.T
section
variable {P : Program} {w : World} {g : Gh} {ow : Ow} {st : St} {a : Act} {o : Oper} {dst : Option Nat}
theorem snd_not {x : Src} {d : Dl} (hc : chkOp P o.op (.not x) = true) (hI : Inv w g ow st a) {call : CallF} (hd : delta call st (.not x) = some d) {Q : Exit → Act → World → Prop} :
    o.wp P a w (Nxt w g ow st.h.length (d.ap o.dst st)) Q := by
  simp only [delta] at hd
  split at hd
  · rename_i b e
    obtain rfl : ({ v := .bool !b } : Dl) = d := by simpa using hd
    cases hop : o.op <;> rw [hop] at hc <;> try (simp [chkOp] at hc; done)
    rename_i u t y
    cases u <;> simp [chkOp] at hc
    have h1 := (ev_spec hI hc e).1.bool_inv
    refine wp_val (v := .bool !b) (w' := w) ?_ (hI.nx0 o.dst (cellR (.bool _) rfl rfl))
    unfold execOp; rw [hop]; simp [h1, Op.unary]
  · cases hd
theorem snd_neg {x : Src} {d : Dl} (hc : chkOp P o.op (.neg x) = true) (hI : Inv w g ow st a) {call : CallF} (hd : delta call st (.neg x) = some d) {Q : Exit → Act → World → Prop} :
    o.wp P a w (Nxt w g ow st.h.length (d.ap o.dst st)) Q := by
  simp only [delta] at hd
  split at hd
  · rename_i k n e
    obtain rfl : ({ v := .int k (k.wrap (0 - n)) } : Dl) = d := by simpa using hd
    cases hop : o.op <;> rw [hop] at hc <;> try (simp [chkOp] at hc; done)
    rename_i u t y
    cases u <;> simp [chkOp] at hc
    have h1 := (ev_spec hI hc e).1.int_inv
    refine wp_val (v := .int k (k.wrap (0 - n))) (w' := w) ?_ (hI.nx0 o.dst (cellR (.int _ _) rfl rfl))
    unfold execOp; rw [hop]; simp [h1, Op.unary, Op.intArith]
  · cases hd
theorem isStr_of {t : TypeId} (h : isStrT P t = true) : P.underlying t = some .string := by
  unfold isStrT at h
  split at h <;> first | assumption | cases h
theorem isU8_of {t : TypeId} (h : isU8 P t = true) : P.underlying t = some (.int .u8) := by
  unfold isU8 at h
  split at h <;> first | assumption | cases h
theorem elem_of {t e : TypeId} (h : elemOf? P t = some e) : P.underlying t = some (.slice e) := by
  unfold elemOf? at h
  split at h
  · obtain rfl := Option.some.inj h; assumption
  · cases h
theorem some_of {α : Type} {x : Option α} (h : x.isSome = true) : ∃ y, x = some y := Option.isSome_iff_exists.1 h
theorem snd_cvi {k : IntKind} {x : Src} {d : Dl} (hc : chkOp P o.op (.cvi k x) = true) (hI : Inv w g ow st a) {call : CallF} (hd : delta call st (.cvi k x) = some d) {Q : Exit → Act → World → Prop} :
    o.wp P a w (Nxt w g ow st.h.length (d.ap o.dst st)) Q := by
  simp only [delta] at hd
  split at hd
  · rename_i k' n e
    obtain rfl : ({ v := .int k (k.wrap n) } : Dl) = d := by simpa using hd
    cases hop : o.op <;> rw [hop] at hc <;> simp [chkOp] at hc
    rename_i s t y
    obtain ⟨⟨hs, ht⟩, hc⟩ := hc
    have hu : P.underlying t = some (.int k) := by
      split at ht
      · rename_i q hq
        have : k = q := by simpa using ht
        rw [this]; exact hq
      · cases ht
    obtain ⟨ds, hs⟩ := some_of hs
    have h1 := (ev_spec hI hc e).1.int_inv
    refine wp_val (v := .int k (k.wrap n)) (w' := w) ?_ (hI.nx0 o.dst (cellR (.int _ _) rfl rfl))
    unfold execOp; rw [hop]
    simp [h1, convert, run_underlying hs, run_underlying hu, Conv.intToInt]
  · cases hd
theorem snd_cvt {x : Src} {d : Dl} (hc : chkOp P o.op (.cvt x) = true) (hI : Inv w g ow st a) {call : CallF} (hd : delta call st (.cvt x) = some d) {Q : Exit → Act → World → Prop} :
    o.wp P a w (Nxt w g ow st.h.length (d.ap o.dst st)) Q := by
  simp only [delta] at hd
  split at hd
  · rename_i s e
    obtain rfl : ({ v := .str s } : Dl) = d := by simpa using hd
    cases hop : o.op <;> rw [hop] at hc <;> simp [chkOp] at hc
    rename_i sr t y
    obtain ⟨⟨hs, ht⟩, hc⟩ := hc
    have hu := isStr_of ht
    obtain ⟨ds, hs⟩ := some_of hs
    have h1 := (ev_spec hI hc e).1.str_inv
    refine wp_val (v := .string s) (w' := w) ?_ (hI.nx0 o.dst (cellR (.str _) rfl rfl))
    unfold execOp; rw [hop]
    cases ds <;> simp [h1, convert, run_underlying hs, run_underlying hu]
  · cases hd
theorem all_get {p : TV → Bool} {l : List TV} (h : l.all p = true) {i : Nat} {x : TV} (hx : l[i]? = some x) : p x = true := List.all_eq_true.1 h x (List.mem_of_getElem? hx)
theorem at_add (b o n : Nat) : (at_ b o).add n = at_ b (o + n) := Addr.add_mid b o n
theorem run_convert_bytes_none (w : World) (src e : TypeId) (hs : P.underlying src = some (.slice e)) (he : P.underlying e = some (.int .u8)) (ad : Addr) (c : Nat) :
    ∀ dst, P.underlying dst = some .string → (convert src dst (.slice (some ad) 0 c)).run P w = .ok (.string ByteArray.empty) w := by
  intro dst hd
  have hl : (loadCells ad 0).run P w = .ok (([] : List Int).map (Value.int .u8)).toArray w := run_loadCells_list (P := P) w ad [] (by simp)
  rw [run_convert_bytes_string w src dst e _ 0 c hs he hd, run_bytesToString w _ 0 c [] hl]
  rfl
theorem cvs_core {x : Src} {d : Dl} (hc : chkOp P o.op (.cvs x) = true) (hI : Inv w g ow st a) {vx : TV} {l : List TV} (e : ev st.t x = some vx) (hl : elS st.h vx = some l) (hb : l.all isByte = true) (hd : some ({ v := .str ⟨(l.map byteOf).toArray⟩ } : Dl) = some d) {Q : Exit → Act → World → Prop} :
    o.wp P a w (Nxt w g ow st.h.length (d.ap o.dst st)) Q := by
  obtain rfl : ({ v := .str ⟨(l.map byteOf).toArray⟩ } : Dl) = d := by simpa using hd
  cases hop : o.op <;> rw [hop] at hc <;> simp [chkOp] at hc
  rename_i sr t y
  obtain ⟨⟨ht, he⟩, hc⟩ := hc
  have hu := isStr_of ht
  split at he
  · rename_i el hel
    have hs := elem_of hel
    have hu8 := isU8_of he
    obtain ⟨A0, c0, g', hq0, h1, _⟩ := els_sl hI.box hI.bd (ev_spec hI hc e).1 hl
    generalize hq : a.eval y = q at h1
    refine wp_val (v := .string ⟨(l.map byteOf).toArray⟩) (w' := w) ?_ (hI.nx0 o.dst (cellR (.str _) rfl rfl))
    unfold execOp; rw [hop]
    simp only [hq]
    cases h1 with
    | sl _ _ A c sz vals hz hcap hm hA hn hE h hr =>
      cases A with
      | none =>
        obtain rfl := hn rfl
        have := run_convert_bytes_nil (P := P) w sr el hs hu8 0 c t hu
        simp only [List.length_nil, Sem.run_bind, this, Result.andThen_ok]
        rfl
      | some ad =>
        by_cases hl0 : l = []
        · subst hl0
          have := run_convert_bytes_none (P := P) w sr el hs hu8 ad c t hu
          simp only [List.length_nil, Sem.run_bind, this, Result.andThen_ok]
          rfl
        obtain ⟨b, off, sp⟩ := ad
        obtain rfl : sp = none := hA _ rfl (by have := List.length_pos_iff.2 hl0; omega)
        have hsz : ∀ (i : Nat) (e : TV), l[i]? = some e → e.cells = [e] ∧ ∃ n, e = TV.int .u8 n := by
          intro i e hi
          have := all_get hb hi
          unfold isByte at this
          split at this
          · exact ⟨rfl, _, rfl⟩
          · cases this
        let xs : List Int := l.map fun e => match e with | .int _ n => n | _ => 0
        have hx : strOfNums xs = ⟨(l.map byteOf).toArray⟩ := by
          simp only [strOfNums, xs, List.map_map]
          congr 2
          apply List.map_congr_left
          intro e hem
          obtain ⟨i, hi⟩ := List.getElem?_of_mem hem
          obtain ⟨_, n, rfl⟩ := hsz i e hi
          rfl
        have hr2 := run_convert_bytes_arg (P := P) w sr el hs hu8 b off l.length c xs (by simp [xs]) (fun i hi => by
          have hi' : l[i]? = some l[i] := by simp [hi]
          obtain ⟨hc1, n, hn1⟩ := hsz i _ hi'
          have hsz1 : sz = 1 := by
            have := hE l[i] (List.getElem_mem hi)
            rw [hc1] at this
            simpa using this.symm
          obtain ⟨_, _, k3⟩ := h _ i _ 0 _ rfl hi' (by rw [hc1]; rfl)
          have k4 := hr i _ 0 _ hi' (by rw [hc1]; rfl)
          rw [hn1] at k4
          have := k4.int_inv
          simp only [hsz1, Nat.mul_one, Nat.add_zero] at k3
          rw [show off + i = off + i from rfl]
          have e2 : xs.getD i 0 = n := by simp [xs, List.getElem?_eq_getElem hi, hn1]
          rw [e2, ← this]
          exact k3) t hu
        simp only [Sem.run_bind, hr2, Result.andThen_ok, hx]
        rfl
  · cases he
theorem snd_cvs {x : Src} {d : Dl} (hc : chkOp P o.op (.cvs x) = true) (hI : Inv w g ow st a) {call : CallF} (hd : delta call st (.cvs x) = some d) {Q : Exit → Act → World → Prop} :
    o.wp P a w (Nxt w g ow st.h.length (d.ap o.dst st)) Q := by
  simp only [delta] at hd
  split at hd
  · rename_i vx e
    split at hd
    · rename_i l hl
      split at hd
      · rename_i hb
        exact cvs_core hc hI e hl hb hd
      · cases hd
    · cases hd
  · cases hd
theorem snd_len {b : Bool} {x : Src} {d : Dl} (hc : chkOp P o.op (.len b x) = true) (hI : Inv w g ow st a) {call : CallF} (hd : delta call st (.len b x) = some d) {Q : Exit → Act → World → Prop} :
    o.wp P a w (Nxt w g ow st.h.length (d.ap o.dst st)) Q := by
  cases hop : o.op <;> rw [hop] at hc <;> try (simp [chkOp] at hc; done)
  rename_i cl
  obtain ⟨cal, as, ts⟩ := cl
  cases cal <;> try (simp [chkOp] at hc; done)
  rename_i bu
  cases bu <;> simp [chkOp] at hc
  obtain ⟨hsz, hc⟩ := hc
  split at hc
  · rename_i y t hy ht
    simp at hc
    obtain ⟨hcy, hc⟩ := hc
    have has : as = #[y] := by
      apply Array.ext
      · simpa using hsz
      · intro i h1 h2
        have : i = 0 := by simp at h2; omega
        subst this
        have := (Array.getElem?_eq_some_iff.1 hy).2
        simpa using this
    subst has
    have key : ∀ (n : Nat) (du : TypeDesc), P.underlying t = some du → (match du, a.eval y with | .string, .string s => s.size = n | .slice _, .slice _ k _ => k = n | _, _ => False) → o.wp P a w (Nxt w g ow st.h.length (({ v := .int .i64 n } : Dl).ap o.dst st)) Q := by
      intro n du hdu hm
      refine wp_val (v := .int .i64 n) (w' := w) ?_ (hI.nx0 o.dst (cellR (.int _ _) rfl rfl))
      unfold execOp; rw [hop]
      simp only [resolve, Sem.run_bind, Sem.run_pure, Result.andThen_ok, invoke, builtin, Builtin.len_, ht]
      simp only [List.map_toArray, List.map_cons, List.map_nil]
      simp [run_underlying hdu]
      split at hm
      · rename_i s hs
        simp [hs, hm, goInt]
      · rename_i k c hs
        simp [hs, hm, goInt]
      · exact hm.elim
    simp only [delta] at hd
    split at hd
    · rename_i s e
      cases b <;> simp at hd hc
      subst hd
      have h1 := (ev_spec hI hcy e).1.str_inv
      exact key _ _ (isStr_of hc) (by simp [h1])
    · rename_i tg l e
      cases b <;> simp at hd hc
      subst hd
      obtain ⟨el, hel⟩ := some_of hc
      have h1 := (ev_spec hI hcy e).1
      generalize hq : a.eval y = q at h1 key
      cases h1
      exact key _ _ (elem_of hel) rfl
    · rename_i ag s1 i1 o1 n1 e
      cases b <;> simp at hd hc
      subst hd
      obtain ⟨el, hel⟩ := some_of hc
      have h1 := (ev_spec hI hcy e).1
      generalize hq : a.eval y = q at h1 key
      cases h1
      exact key _ _ (elem_of hel) rfl
    · cases hd
  · cases hc
end
end Go.T
