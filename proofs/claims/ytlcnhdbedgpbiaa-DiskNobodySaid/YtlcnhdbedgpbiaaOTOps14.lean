/- Operations of the small machine: bytes as other bytes. -/
import Derived.Test.YtlcnhdbedgpbiaaOTOps13
set_option linter.unusedVariables false
set_option linter.unusedSimpArgs false
set_option maxRecDepth 10000
namespace Go.T
section
variable {P : Program} {w : World} {g : Gh} {ow : Ow} {st : St} {a : Act} {o : Oper} {dst : Option Nat}
theorem freeze_row {b n : Nat} {vs : Array Value} {ty : TypeId} {fr : Nat × Nat} (h : RowOf w b vs ty fr) (hf : NF fr vs.size) : ∃ fr', RowOf (w.freeze ⟨b, vs.size, none⟩ 1) b vs ty fr' ∧ NF fr' vs.size := by
  unfold RowOf at *
  obtain ⟨lo, hi⟩ := fr
  unfold NF at hf
  simp only at hf
  refine ⟨if lo == hi then (vs.size, vs.size + 1) else (min lo vs.size, max hi (vs.size + 1)), ?_, ?_⟩
  · unfold World.freeze
    rw [if_neg (by decide)]
    simp only [Array.getElem?_modify, if_true, h, Option.map_some]
  · unfold NF
    by_cases hh : lo = hi
    · simp [hh]
    · right
      simp [hh]
      rcases hf with hf | hf
      · exact absurd hf hh
      · omega
theorem freeze_other {b c off n : Nat} (h : c ≠ b) : (w.freeze ⟨b, off, none⟩ n).heap[c]? = w.heap[c]? := by
  unfold World.freeze
  split
  · rfl
  · simp only [Array.getElem?_modify]
    rw [if_neg (fun e => h e.symm)]
theorem freeze_same {b off n : Nat} : (w.freeze ⟨b, off, none⟩ n).os = w.os ∧ (w.freeze ⟨b, off, none⟩ n).tape = w.tape ∧ (w.freeze ⟨b, off, none⟩ n).output = w.output ∧ (w.freeze ⟨b, off, none⟩ n).heap.size = w.heap.size := by
  unfold World.freeze
  split
  · exact ⟨rfl, rfl, rfl, rfl⟩
  · exact ⟨rfl, rfl, rfl, by simp⟩
theorem snd_cvx {x : Src} {d : Dl} (hc : chkOp P o.op (.cvx x) = true) (hI : Inv w g ow st a) {call : CallF} (hd : delta call st (.cvx x) = some d) {Q : Exit → Act → World → Prop} :
    o.wp P a w (Nxt w g ow st.h.length (d.ap o.dst st)) Q := by
  cases hop : o.op <;> rw [hop] at hc <;> simp [chkOp] at hc
  rename_i sr t y
  obtain ⟨⟨rfl, he⟩, hc⟩ := hc
  split at he
  · rename_i e hel
    have ht := elem_of hel
    have hu := isU8_of he
    simp only [delta] at hd
    split at hd
    · rename_i n l i hx
      obtain rfl := Option.some.inj hd
      obtain ⟨v1, v2, v3⟩ := tak_spec hI hc hx
      obtain ⟨ow1, i1, i2, i3⟩ := hI.aside v2 v3
      generalize hq : a.eval y = rv at v1 i3
      have v1' := v1
      cases v1 with
      | sl _ _ A c sz vals hz hcap hmx hA hn hE hh hr =>
        obtain ⟨z0, z1⟩ := i3 [] n true l A _ c (.here _ _)
        obtain ⟨ad, rfl, ho, vs, ty, fr, hrow, e1, e2, e3⟩ := z1 (.inr rfl)
        simp only [List.append_nil] at ho
        obtain ⟨fr', f1, f2⟩ := freeze_row hrow e3 (n := 1)
        obtain ⟨s1, s2, s3, s4⟩ := freeze_same (w := w) (b := ad.block) (off := vs.size) (n := 1)
        have hoth : ∀ c, c ≠ ad.block → (w.freeze ⟨ad.block, vs.size, none⟩ 1).heap[c]? = w.heap[c]? := fun c hc => freeze_other hc
        have hrun : (execOp a.eval o).run P w = .ok (.value (.slice (some ad) l.length c)) (w.freeze ⟨ad.block, vs.size, none⟩ 1) := by
          have hshape : w.shape? ad.block = some (ty, vs.size) := by
            unfold World.shape?; unfold RowOf at hrow; simp [hrow]
          unfold execOp; rw [hop]
          simp [hq, convert, run_underlying ht, run_underlying hu, markStringish, hshape]
        generalize w.freeze ⟨ad.block, vs.size, none⟩ 1 = w' at *
        refine wp_val hrun ?_
        have hstp : Stp w g ow1 st.h.length w' g ow1 := by
          refine ⟨s1, s2, s3, by rw [s4]; exact Nat.le_refl _, fun b off hb _ => ?_, fun _ _ => Nat.le_refl _, fun _ _ => rfl, fun b us ty' fr2 hr2 => ?_, fun b hb hf => ⟨hoth b ?_, rfl, rfl⟩, fun b q hq => ⟨i1.bd b _ hq, hq⟩⟩
          · by_cases hbb : b = ad.block
            · subst hbb
              rw [cell_of_row hrow, cell_of_row f1]
            · unfold World.cell?
              simp only [hoth b hbb]
          · by_cases hbb : b = ad.block
            · subst hbb
              have : us = vs ∧ ty' = ty := by
                unfold RowOf at hr2 hrow
                rw [hrow] at hr2
                simp at hr2
                exact ⟨hr2.1.symm, hr2.2.1.symm⟩
              obtain ⟨rfl, rfl⟩ := this
              exact ⟨_, _, f1, rfl⟩
            · exact ⟨us, fr2, by unfold RowOf at *; rw [hoth b hbb]; exact hr2, rfl⟩
          · rintro rfl
            rcases hf with hf | ⟨q, hf⟩
            · rw [hf] at ho; cases ho
            · rw [hf] at ho; simp at ho
        have hne : ∀ b q, ow1 b = some q → q.head? = some 0 ∨ q.head? = some 1 → b ≠ ad.block := by
          rintro b q hb hq rfl
          rw [ho] at hb
          obtain rfl := Option.some.inj hb
          simp at hq
        have h2 : Inv w' g ow1 { st with t := downs i st.t } a := i1.mono hstp (fun b q hb hq => ⟨hoth b (hne b q hb hq), rfl, rfl⟩) (fun b q hb => by rw [s4]; exact i1.bd b q hb)
        obtain ⟨dd, hdd⟩ : ∃ dd, dd = o.dst.getD 0 := ⟨_, rfl⟩
        have h3 := h2.scratch [dd] 0
        refine ⟨g, mvO ow1 [4] [0, dd], (i2.trans hstp (Nat.le_refl _)).trans (m1 := st.h.length) (Stp.free h2.bd [4] 0 [dd] (by simp) (by simp) (by simp)) (Nat.le_refl _), ?_⟩
        cases hdst : o.dst with
        | none => exact ⟨h3.defers, h3.len, h3.slot, h3.box, h3.bd, h3.base⟩
        | some j =>
          obtain rfl : dd = j := by rw [hdd, hdst]; rfl
          have := h3.put dd (x := .sl (.own n true) l) rfl (v1'.mono (i2.trans hstp (Nat.le_refl _)) (Nat.le_refl _)) (by
            intro p sz' s' l' A' n' c' hs
            cases hs
            refine ⟨z0, fun _ => ⟨ad, rfl, ?_, vs, ty, fr', f1, e1, e2, f2⟩⟩
            exact mvO_at (p := []) (by simpa using ho))
          exact ⟨this.defers, this.len, this.slot, this.box, this.bd, this.base⟩
    · cases hd
  · cases he
end
end Go.T
