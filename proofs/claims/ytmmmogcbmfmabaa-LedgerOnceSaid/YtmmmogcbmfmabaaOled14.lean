/- A call on a ledger that may be: both make the same of it, and it may be. -/
import Derived.Test.YtmmmogcbmfmabaaOled13
set_option linter.unusedVariables false
set_option linter.unusedSimpArgs false
set_option maxRecDepth 10000
set_option pp.deepTerms true
set_option pp.maxSteps 1000000
set_option maxHeartbeats 1000000
namespace Go.T
variable {H : Heap}
/-- What a call makes of a ledger. -/
def doL (l : Lg) (op id n : Int) (h : Hd) : Lg :=
  if op = 0 ∨ op = 1 ∨ op = 2 then (if resE l h = 0 then resL l h else l)
  else if op = 3 then (match findH id l.hs with
    | none => l
    | some g => ⟨l.q, l.u, IntKind.i64.wrap (l.he - g.nb), l.nx, relL id false l.hs⟩)
  else if op = 4 then (match findH id l.hs with
    | none => l
    | some g => if within n 0 g.nb = true then ⟨l.q, IntKind.i64.wrap (l.u + n), IntKind.i64.wrap (l.he - g.nb), l.nx, relL id false l.hs⟩ else l)
  else if op = 5 then (if within n 0 l.u = true then ⟨l.q, IntKind.i64.wrap (l.u - n), l.he, l.nx, l.hs⟩ else l)
  else if op = 6 then (if within n 0 1099511627776 = true ∧ fitB n 0 [l.u, l.he] = true then ⟨n, l.u, l.he, l.nx, l.hs⟩ else l)
  else ⟨l.q, l.u, IntKind.i64.wrap (l.he - expS n l.hs), l.nx, expL n l.hs⟩
theorem relL_len (id : Int) (l : List Hd) : ∀ b, (relL id b l).length ≤ l.length := by
  induction l with
  | nil => intro b; cases b <;> exact Nat.le_refl _
  | cons x l ih =>
    intro b
    cases b
    · rw [relL]; split
      · rw [List.length_cons]; have := ih true; omega
      · rw [List.length_cons, List.length_cons]; have := ih false; omega
    · rw [relL, List.length_cons, List.length_cons]; have := ih true; omega
theorem expL_len (n : Int) (l : List Hd) : (expL n l).length ≤ l.length := List.length_filter_le ..
theorem do_any (l : Lg) (hl : l.ok) (op id n : Int) (h : Hd) (hh : h.ok) (hm : l.hs.length ≤ 10000) : ∃ Va Vb, RdL Va (doL l op id n h).hs ∧ RdL Vb (doL l op id n h).hs ∧ CT n_law19_do [l.tv, l.tv, dov op id n h] H = some ⟨.tup [(doL l op id n h).tvw Va, (doL l op id n h).tvw Vb, .bool true], H, false⟩ := by
  have hm1 : l.hs.length ≤ 1000000 := by omega
  have hm2 : l.hs.length ≤ 100000 := by omega
  unfold doL
  by_cases h0 : op = 0 ∨ op = 1 ∨ op = 2
  · rw [if_pos h0]
    by_cases he : resE l h = 0
    · rw [if_pos he]
      exact ⟨_, _, .sln _, .sln _, do_reserve l (resL l h) id n h op h0 _ _ (.sln _) (.sln _) (by simp only [resL, List.length_append, List.length_cons, List.length_nil]; omega) _ _ (ledger_Reserve_ok l hl h hh hm2 he) (ref19_Reserve_ok l hl h hh hm2 he)⟩
    · rw [if_neg he]
      exact ⟨_, _, .own _, .sln _, do_reserve l l id n h op h0 _ _ (.own _) (.sln _) hm1 _ _ (ledger_Reserve_err l hl h hh hm2 he) (ref19_Reserve_err l hl h hh hm2 he)⟩
  rw [if_neg h0]
  by_cases h3 : op = 3
  · rw [if_pos h3]
    subst h3
    cases hf : findH id l.hs with
    | none => exact ⟨_, _, .own _, .sln _, do_release l l id n h _ _ (.own _) (.sln _) hm1 _ (ledger_Release_none l hm1 id (find_none hf)) (ref19_Release_none l hm1 id hf)⟩
    | some g =>
      obtain ⟨A, B, hs, h1, h2, e3⟩ := find_some hf
      have hA := ledger_Release (H := H) l hm1 id A B g hs h1 h2
      rw [← e3] at hA
      exact ⟨_, _, .sln _, .shr _, do_release l ⟨l.q, l.u, IntKind.i64.wrap (l.he - g.nb), l.nx, relL id false l.hs⟩ id n h _ _ (.sln _) (.shr _) (by have := relL_len id l.hs false; simp only; omega) _ hA (ref19_Release l hm1 id g hf)⟩
  rw [if_neg h3]
  by_cases h4 : op = 4
  · rw [if_pos h4]
    subst h4
    cases hf : findH id l.hs with
    | none => exact ⟨_, _, .own _, .sln _, do_spend l l id n h _ _ (.own _) (.sln _) hm1 _ (ledger_Spend_none l hm1 id n hf) (ref19_Spend_none l hm1 id n hf)⟩
    | some g =>
      simp only
      cases hw : within n 0 g.nb
      · rw [if_neg (by simp)]
        exact ⟨_, _, .sln _, .sln _, do_spend l l id n h _ _ (.sln _) (.sln _) hm1 _ (ledger_Spend_quota l hm1 id n g hf hw) (ref19_Spend_quota l hm1 id n g hf hw)⟩
      · rw [if_pos rfl]
        exact ⟨_, _, .sln _, .shr _, do_spend l ⟨l.q, IntKind.i64.wrap (l.u + n), IntKind.i64.wrap (l.he - g.nb), l.nx, relL id false l.hs⟩ id n h _ _ (.sln _) (.shr _) (by have := relL_len id l.hs false; simp only; omega) _ (ledger_Spend_ok l hm1 id n g hf hw) (ref19_Spend_ok l hm1 id n g hf hw)⟩
  rw [if_neg h4]
  by_cases h5 : op = 5
  · rw [if_pos h5]
    subst h5
    cases hw : within n 0 l.u
    · rw [if_neg (by simp)]
      exact ⟨_, _, .own _, .sln _, do_free l l id n h _ _ (.own _) (.sln _) hm1 _ (ledger_Free_err l hm1 n hw) (ref19_Free_err l hm1 n hw)⟩
    · rw [if_pos rfl]
      exact ⟨_, _, .own _, .sln _, do_free l ⟨l.q, IntKind.i64.wrap (l.u - n), l.he, l.nx, l.hs⟩ id n h _ _ (.own _) (.sln _) hm1 _ (ledger_Free_ok l hm1 n hw) (ref19_Free_ok l hm1 n hw)⟩
  rw [if_neg h5]
  by_cases h6 : op = 6
  · rw [if_pos h6]
    subst h6
    cases hw : within n 0 1099511627776
    · rw [if_neg (by simp)]
      exact ⟨_, _, .own _, .sln _, do_quota l l id n h _ _ (.own _) (.sln _) hm1 _ (ledger_Quota_arg l hm1 n hw) (ref19_Quota_arg l hm1 n hw)⟩
    · cases hf : fitB n 0 [l.u, l.he]
      · rw [if_neg (by simp)]
        exact ⟨_, _, .own _, .sln _, do_quota l l id n h _ _ (.own _) (.sln _) hm1 _ (ledger_Quota_held l hl hm1 n hw hf) (ref19_Quota_held l hl hm1 n hw hf)⟩
      · rw [if_pos (by simp)]
        exact ⟨_, _, .own _, .sln _, do_quota l ⟨n, l.u, l.he, l.nx, l.hs⟩ id n h _ _ (.own _) (.sln _) hm1 _ (ledger_Quota_ok l hl hm1 n hw hf) (ref19_Quota_ok l hl hm1 n hw hf)⟩
  rw [if_neg h6]
  have hR : RdL (if l.hs.length = 0 then TV.nils else sln (expL n l.hs)) (expL n l.hs) := by
    by_cases hz : l.hs.length = 0
    · rw [if_pos hz, List.eq_nil_of_length_eq_zero hz]; exact ⟨rfl, rfl⟩
    · rw [if_neg hz]; exact .sln _
  have ne : ∀ k : Int, op ≠ k → (op == k) = false := fun k hk => by simp [hk]
  exact ⟨_, _, hR, .shr _, do_expire l ⟨l.q, l.u, IntKind.i64.wrap (l.he - expS n l.hs), l.nx, expL n l.hs⟩ id n h op (ne 0 (by omega)) (ne 1 (by omega)) (ne 2 (by omega)) (ne 3 h3) (ne 4 h4) (ne 5 h5) (ne 6 h6) _ _ hR (.shr _) (by have := expL_len n l.hs; simp only; omega) _ (ledger_Expire l hl hm1 n) (ref19_Expire l hl hm1 n)⟩
/-- A ledger that may be. -/
structure Good (l : Lg) : Prop where
  q : 0 ≤ l.q ∧ l.q ≤ 1099511627776
  u : 0 ≤ l.u ∧ l.u ≤ 1099511627776
  he : 0 ≤ l.he ∧ l.he ≤ 1099511627776
  nx : 1 ≤ l.nx ∧ l.nx ≤ 2147483648
  len : l.hs.length ≤ 8
  ord : ordB l.nx 0 l.hs = true
  all : l.hs.all holdB = true
  sum : sumN l.hs = l.he
  fit : l.u + l.he ≤ l.q
theorem good_iff (l : Lg) : checkB l = true ↔ Good l := by
  unfold checkB
  simp only [Bool.and_eq_true, within_iff, decide_eq_true_eq, beq_iff_eq]
  constructor
  · rintro ⟨h1, h2, h3, h4, h5, h6, h7, h8, h9, h10⟩
    rw [fit2 h2 h3, decide_eq_true_eq] at h10
    exact ⟨h1, h2, h3, h4, by omega, h6, h7, h9, h10⟩
  · rintro ⟨h1, h2, h3, h4, h5, h6, h7, h8, h9⟩
    refine ⟨h1, h2, h3, h4, by omega, h6, h7, totB_ok h7 h5 0 (by omega) (by omega), h8, ?_⟩
    rw [fit2 h2 h3, decide_eq_true_eq]; exact h9
theorem ordB_mono {nx last last' : Int} {l : List Hd} (h : ordB nx last l = true) (hl : last' ≤ last) : ordB nx last' l = true := by
  cases l with
  | nil => rfl
  | cons x l =>
    simp only [ordB, Bool.and_eq_true, Bool.not_eq_true', Bool.or_eq_false_iff, decide_eq_false_iff_not] at h ⊢
    exact ⟨⟨by omega, h.1.2⟩, h.2⟩
theorem ordB_sub {nx : Int} {a b : List Hd} (hs : a.Sublist b) : ∀ last, ordB nx last b = true → ordB nx last a = true := by
  induction hs with
  | slnil => intro _ h; exact h
  | cons x _ ih =>
    intro last h
    simp only [ordB, Bool.and_eq_true, Bool.not_eq_true', Bool.or_eq_false_iff, decide_eq_false_iff_not] at h
    exact ih last (ordB_mono h.2 (by omega))
  | cons_cons x _ ih =>
    intro last h
    simp only [ordB, Bool.and_eq_true, Bool.not_eq_true', Bool.or_eq_false_iff, decide_eq_false_iff_not] at h ⊢
    exact ⟨h.1, ih _ h.2⟩
theorem ordB_snoc {nx : Int} {x : Hd} (hx : x.id = nx) (l : List Hd) : ∀ last, last < nx → ordB nx last l = true → ordB (nx + 1) last (l ++ [x]) = true := by
  induction l with
  | nil =>
    intro last h _
    simp only [List.nil_append, ordB, Bool.and_eq_true, Bool.not_eq_true', Bool.or_eq_false_iff, decide_eq_false_iff_not]
    exact ⟨⟨by omega, by omega⟩, trivial⟩
  | cons y l ih =>
    intro last h hy
    simp only [List.cons_append, ordB, Bool.and_eq_true, Bool.not_eq_true', Bool.or_eq_false_iff, decide_eq_false_iff_not] at hy ⊢
    exact ⟨⟨by omega, by omega⟩, ih _ (by omega) hy.2⟩
theorem sumN_app (a b : List Hd) : sumN (a ++ b) = sumN a + sumN b := by simp [sumN]
theorem sumN_exp (n : Int) (l : List Hd) : sumN (expL n l) = sumN l - expS n l := by
  induction l with
  | nil => rfl
  | cons x l ih =>
    by_cases h : x.un < n
    · have e1 : expL n (x :: l) = expL n l := by simp [expL, h]
      rw [e1, ih, expS, if_pos h]
      simp only [sumN, List.map_cons, List.sum_cons]; omega
    · have e1 : expL n (x :: l) = x :: expL n l := by simp [expL, h]
      rw [e1, expS, if_neg h]
      simp only [sumN, List.map_cons, List.sum_cons] at ih ⊢; omega
theorem all_sub {a b : List Hd} (hs : a.Sublist b) (h : b.all holdB = true) : a.all holdB = true := by
  rw [List.all_eq_true] at h ⊢
  exact fun x hx => h x (hs.subset hx)
theorem fit3 {q u he nb : Int} (hu : 0 ≤ u ∧ u ≤ 1099511627776) (hh : 0 ≤ he ∧ he ≤ 1099511627776) (hn : 0 ≤ nb ∧ nb ≤ 1099511627776) (h : fitB q 0 [u, he, nb] = true) : u + he + nb ≤ q := by
  simp only [fitB] at h
  split at h
  · cases h
  · split at h
    · cases h
    · split at h
      · cases h
      · omega
theorem Good.sub {l : Lg} (g : Good l) {hs : List Hd} (s : hs.Sublist l.hs) {d : Int} (hd : sumN hs = l.he - d) (u' : Int) (h0 : 0 ≤ u' ∧ u' ≤ 1099511627776) (hf : u' + (l.he - d) ≤ l.q) (hdd : 0 ≤ d) : Good ⟨l.q, u', IntKind.i64.wrap (l.he - d), l.nx, hs⟩ := by
  have ha := all_sub s g.all
  have h1 := sumN_le ha
  have h2 := g.he
  have hw : IntKind.i64.wrap (l.he - d) = l.he - d := IntWalk.i64_in _ (by omega)
  have h3 := s.length_le
  rw [hw]
  exact ⟨g.q, h0, ⟨by simp only; omega, by simp only; omega⟩, g.nx, Nat.le_trans h3 g.len, ordB_sub s _ g.ord, ha, hd, hf⟩
theorem good_do (l : Lg) (g : Good l) (op id n : Int) (h : Hd) : Good (doL l op id n h) := by
  have g1 := g.q
  have g2 := g.u
  have g3 := g.he
  have g4 := g.nx
  have g5 := g.len
  have g6 := g.fit
  unfold doL
  split
  · split
    · rename_i he
      rcases resE_cases l h with ⟨c1, e⟩ | ⟨c1, ⟨c2, e⟩ | ⟨c2, ⟨c3, e⟩ | ⟨c3, ⟨c4, e⟩ | ⟨c4, e⟩⟩⟩⟩ <;> try (rw [e] at he; cases he)
      have hnb : 0 ≤ h.nb ∧ h.nb ≤ 1099511627776 := holdB_nb (h := inH l h) c1
      have h3 := fit3 g2 g3 hnb c4
      have w1 : IntKind.i64.wrap (l.he + h.nb) = l.he + h.nb := IntWalk.i64_in _ (by omega)
      have w2 : IntKind.i64.wrap (l.nx + 1) = l.nx + 1 := IntWalk.i64_in _ (by omega)
      unfold resL
      rw [w1, w2]
      refine ⟨g1, g2, ⟨by simp only; omega, by simp only; omega⟩, ⟨by simp only; omega, by simp only; omega⟩, by simp only [List.length_append, List.length_cons, List.length_nil]; omega, ordB_snoc (nx := l.nx) (x := inH l h) rfl _ 0 (by omega) g.ord, ?_, ?_, by simp only; omega⟩
      · simp only [List.all_append, g.all, Bool.true_and, List.all_cons, List.all_nil, Bool.and_true]; exact c1
      · simp only [sumN_app, g.sum]; simp [sumN, inH]
    · exact g
  · split
    · split
      · exact g
      · rename_i x hf
        obtain ⟨A, B, hs, h1, h2, h3⟩ := find_some hf
        have hx : holdB x = true := by have := g.all; rw [List.all_eq_true] at this; exact this x (by rw [hs]; simp)
        have hnb := holdB_nb hx
        have hsub : (relL id false l.hs).Sublist l.hs := by rw [h3, hs]; exact List.Sublist.append (List.Sublist.refl _) (List.sublist_cons_self _ _)
        have hsum : sumN (relL id false l.hs) = l.he - x.nb := by
          rw [h3, ← g.sum, hs]; simp only [sumN, List.map_append, List.map_cons, List.sum_append, List.sum_cons]; omega
        exact g.sub hsub hsum l.u g2 (by omega) hnb.1
    · split
      · split
        · exact g
        · rename_i x hf
          split
          · rename_i hw
            rw [within_iff] at hw
            obtain ⟨A, B, hs, h1, h2, h3⟩ := find_some hf
            have hx : holdB x = true := by have := g.all; rw [List.all_eq_true] at this; exact this x (by rw [hs]; simp)
            have hnb := holdB_nb hx
            have hsub : (relL id false l.hs).Sublist l.hs := by rw [h3, hs]; exact List.Sublist.append (List.Sublist.refl _) (List.sublist_cons_self _ _)
            have hsum : sumN (relL id false l.hs) = l.he - x.nb := by
              rw [h3, ← g.sum, hs]; simp only [sumN, List.map_append, List.map_cons, List.sum_append, List.sum_cons]; omega
            have h9 := sumN_le (all_sub hsub g.all)
            have w1 : IntKind.i64.wrap (l.u + n) = l.u + n := IntWalk.i64_in _ (by omega)
            rw [w1]
            exact g.sub hsub hsum (l.u + n) (by omega) (by omega) hnb.1
          · exact g
      · split
        · split
          · rename_i hw
            rw [within_iff] at hw
            have w1 : IntKind.i64.wrap (l.u - n) = l.u - n := IntWalk.i64_in _ (by omega)
            rw [w1]
            exact ⟨g1, ⟨by simp only; omega, by simp only; omega⟩, g3, g4, g5, g.ord, g.all, g.sum, by simp only; omega⟩
          · exact g
        · split
          · split
            · rename_i hw
              obtain ⟨hw1, hw2⟩ := hw
              rw [within_iff] at hw1
              rw [fit2 g2 g3, decide_eq_true_eq] at hw2
              exact ⟨hw1, g2, g3, g4, g5, g.ord, g.all, g.sum, hw2⟩
            · exact g
          · have hsub : (expL n l.hs).Sublist l.hs := List.filter_sublist
            have hsum := sumN_exp n l.hs
            rw [g.sum] at hsum
            have hn : 0 ≤ expS n l.hs := by
              have ha := g.all
              generalize l.hs = L at ha
              induction L with
              | nil => exact Int.le_refl _
              | cons x L ih =>
                rw [List.all_cons, Bool.and_eq_true] at ha
                have h1 := holdB_nb ha.1
                have h2 := ih ha.2
                rw [expS]; split <;> omega
            exact g.sub hsub hsum l.u g2 (by omega) hn
theorem ok_do (l : Lg) (g : Good l) (hl : l.ok) (op id n : Int) (h : Hd) (hh : h.ok) : (doL l op id n h).ok := by
  have g' := good_do l g op id n h
  have g1 := g'.q
  have g2 := g'.u
  have g3 := g'.he
  have g4 := g'.nx
  refine ⟨by unfold I64; omega, by unfold I64; omega, by unfold I64; omega, by unfold I64; omega, ?_, by have := g'.len; omega⟩
  have hsub : ∀ x ∈ (doL l op id n h).hs, x ∈ l.hs ∨ x = inH l h := by
    unfold doL
    have hr : ∀ x ∈ relL id false l.hs, x ∈ l.hs := by
      intro x hx
      cases hf : findH id l.hs with
      | none =>
        have : ∀ (l : List Hd) (b : Bool), (relL id b l).Sublist l := by
          intro l
          induction l with
          | nil => intro b; cases b <;> exact List.Sublist.refl _
          | cons y l ih =>
            intro b
            cases b
            · rw [relL]; split
              · exact (ih true).cons _
              · exact (ih false).cons_cons _
            · rw [relL]; exact (ih true).cons_cons _
        exact (this l.hs false).subset hx
      | some g =>
        obtain ⟨A, B, hs, h1, h2, h3⟩ := find_some hf
        rw [h3] at hx
        rw [hs]
        simp only [List.mem_append, List.mem_cons] at hx ⊢
        rcases hx with hx | hx
        · exact .inl hx
        · exact .inr (.inr hx)
    intro x hx
    split at hx
    · split at hx
      · simp only [resL, List.mem_append, List.mem_cons, List.not_mem_nil, or_false] at hx; exact hx
      · exact .inl hx
    · split at hx
      · split at hx
        · exact .inl hx
        · exact .inl (hr x hx)
      · split at hx
        · split at hx
          · exact .inl hx
          · split at hx
            · exact .inl (hr x hx)
            · exact .inl hx
        · split at hx
          · split at hx <;> exact .inl hx
          · split at hx
            · split at hx <;> exact .inl hx
            · exact .inl ((List.mem_filter.1 hx).1)
  intro x hx
  rcases hsub x hx with hx | rfl
  · exact hl.hs x hx
  · exact ⟨hl.nx, hh.cl, hh.nb, hh.un, hh.ti⟩
end Go.T
