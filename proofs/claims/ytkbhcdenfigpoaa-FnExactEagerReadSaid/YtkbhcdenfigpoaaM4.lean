/- What operands and rows say; putting; taking rows. Conditions: none (lemmas). -/
import Derived.Test.YtkbhcdenfigpoaaM3
set_option linter.all false
namespace Go.Mach
/-- The state speaks truly; nothing is in flight. -/
def S (E : Env) (σ : St) (a : Act) (w : World) : Prop := ∃ G, Rel E σ a w G ∧ ∀ y, G (park y) = noG
theorem Rel.toS {E σ a w G} (h : Rel E σ a w G) : S E σ a w := by
  classical
  refine ⟨fun r => if notPark r then G r else noG, h.parks _ (fun r hr => by simp [hr]) ?_ ?_, fun y => by simp [not_np_park y]⟩
  · intro r p r' p' ad c ad' c' h1 h2 hb
    by_cases e : notPark r <;> by_cases e' : notPark r' <;> simp [e, e', noG] at h1 h2
    exact h.inj _ _ _ _ _ _ _ _ h1 h2 hb
  · intro r p ad c h1
    by_cases e : notPark r <;> simp [e, noG] at h1
    exact h.rng _ _ _ _ h1
theorem mapI_get {α β : Type} (g : Nat → α → β) (l : List α) (i j : Nat) : (mapI g i l)[j]? = (l[j]?).map (g (i + j)) := by
  induction l generalizing i j with
  | nil => simp [mapI]
  | cons a l ih =>
    cases j with
    | zero => simp [mapI]
    | succ j =>
      simp only [mapI, List.getElem?_cons_succ, ih]
      congr 2
      omega
theorem mapI_length {α β : Type} (g : Nat → α → β) (l : List α) (i : Nat) : (mapI g i l).length = l.length := by
  induction l generalizing i with
  | nil => rfl
  | cons a l ih => simp [mapI, ih]
theorem RelC.view {E G V w r c v} {pp : Path} (hnp : notPark r) (hpp : pp ≠ []) (h : RelC E G V w (fun q => G r (pp ++ q)) c v) : RelC E G V w noG (viewC r (V r) pp c) v := by
  cases c with
  | tr o t =>
    cases o with
    | false => exact h
    | true =>
      cases t with
      | arr m n f =>
        rcases h with ⟨g0, rfl, rfl⟩ | ⟨b, off, cap, cs, e, g0, rfl, hn, _⟩
        · exact ⟨none, 0, rfl, Nat.le_refl _, ⟨hnp, hpp⟩, Nat.le_refl _, fun _ => .inl ⟨by simpa using g0, rfl, rfl, rfl, rfl⟩⟩
        · exact ⟨_, cap, rfl, hn.1, ⟨hnp, hpp⟩, Nat.le_refl _, fun _ => .inr ⟨b, off, cap, by simpa using g0, fun _ => ⟨rfl, rfl⟩, fun _ => by simp⟩⟩
      | lent m n => exact RelOwn.one h
      | _ => exact h
  | _ => exact h
theorem RelCs.view {E G V w r i cs vs} (hnp : notPark r) (h : RelCs E G V w (fun k q => G r (i :: k :: q)) cs vs) : RelCs E G V w (fun _ => noG) (mapI (fun k c => viewC r (V r) [i, k] c) 0 cs) vs := by
  refine ⟨by rw [mapI_length]; exact h.1, fun k c hk => ?_⟩
  rw [mapI_get, Nat.zero_add] at hk
  obtain ⟨c0, h0, rfl⟩ := Option.map_eq_some_iff.1 hk
  obtain ⟨u, hu, hr⟩ := h.2 k c0 h0
  exact ⟨u, hu, hr.view (pp := [i, k]) hnp (by simp)⟩
theorem RelRow.view {E G V w r i row v} (hnp : notPark r) (h : RelRow E G V w (fun k q => G r (i :: k :: q)) row v) : RelRow E G V w (fun _ => noG) (row.1, mapI (fun k c => viewC r (V r) [i, k] c) 0 row.2) v := by
  obtain ⟨ag, cs⟩ := row
  cases ag with
  | true => obtain ⟨vs, e, hc⟩ := h; exact ⟨vs, e, hc.view hnp⟩
  | false => match cs, h with
    | [], hx => exact hx
    | [c], hx => exact RelC.view (pp := [i, 0]) hnp (by simp) hx
theorem RelRows.view {E G V w r rows v} (hnp : notPark r) (h : RelRows E G V w (G r) rows v) : RelRows E G V w noG (viewRows r (V r) rows) v := by
  match rows, h with
  | [], _ => trivial
  | [row], h => exact RelRow.view (i := 0) (row := row) hnp h
  | a :: b :: l, ⟨vs, e, hs, hh⟩ =>
    refine ⟨vs, e, by simp only [viewRows, mapI, List.length_cons, mapI_length] at *; exact hs, fun i row hi => ?_⟩
    have hi' : (viewRows r (V r) (a :: b :: l))[i]? = some row := hi
    rw [viewRows, mapI_get, Nat.zero_add] at hi'
    obtain ⟨row0, h0, rfl⟩ := Option.map_eq_some_iff.1 hi'
    obtain ⟨u, hu, hr⟩ := hh i row0 h0
    exact ⟨u, hu, hr.view hnp⟩
theorem ofCell_rel {E G V w} (v : Value) (h : v.oneCell' = true) : RelC E G V w noG (ofCell v) v := by
  unfold ofCell
  split
  · rfl
  · rfl
  · rfl
  · exact .inl ⟨rfl, rfl, rfl⟩
  · exact h
theorem ofValue_rel {E G V w} {v : Value} {row : Row} (h : ofValue v = some row) : RelRow E G V w (fun _ => noG) row v := by
  unfold ofValue at h
  split at h
  · rename_i cs
    cases hall : (cs.toList.all (·.oneCell')) with
    | false => simp [hall] at h
    | true =>
      simp only [hall, cond_true, Option.some.injEq] at h
      subst h
      refine ⟨cs, rfl, by simp, fun k c hk => ?_⟩
      simp only [List.getElem?_map] at hk
      obtain ⟨u, hu, rfl⟩ := Option.map_eq_some_iff.1 hk
      exact ⟨u, by simpa using hu, ofCell_rel u (List.all_eq_true.1 hall u (List.mem_of_getElem? hu))⟩
  · cases hall : v.oneCell' with
    | false => simp [hall] at h
    | true =>
      simp only [hall, cond_true, Option.some.injEq] at h
      subst h
      exact ofCell_rel v hall
theorem peek_sound {E σ a w G} (h : Rel E σ a w G) {φ x L rows σ' L'} (hr : (peek x).run φ σ L = some (rows, σ', L')) : σ' = σ ∧ RelRows E G σ.V w noG rows (a.eval x) := by
  cases x with
  | tmp t =>
    have := run_ret (φ := φ) hr
    simp at this
    obtain ⟨rfl, rfl, rfl⟩ := this
    exact ⟨rfl, (h.slots t).view (np_slot t)⟩
  | const v =>
    simp only [peek] at hr
    cases hv : ofValue v with
    | none => rw [hv] at hr; exact (run_fail hr).elim
    | some r =>
      rw [hv] at hr
      have := run_ret hr
      simp at this
      obtain ⟨rfl, rfl, rfl⟩ := this
      exact ⟨rfl, ofValue_rel hv⟩
  | func f =>
    have := run_ret (φ := φ) hr
    simp at this
    obtain ⟨rfl, rfl, rfl⟩ := this
    exact ⟨rfl, ⟨#[], rfl, rfl, fun i x hi => by simp at hi⟩⟩
  | global g => exact (run_fail hr).elim
theorem peekRow_sound {E σ a w G} (h : Rel E σ a w G) {φ x L row σ' L'} (hr : (peekRow x).run φ σ L = some (row, σ', L')) : σ' = σ ∧ RelRow E G σ.V w (fun _ => noG) row (a.eval x) := by
  obtain ⟨rows, σ1, L1, h1, h2⟩ := run_bind hr
  obtain ⟨rfl, hrel⟩ := peek_sound h h1
  match rows, h2, hrel with
  | [], h2, _ => exact (run_fail h2).elim
  | [r], h2, hrel =>
    have := run_ret h2
    simp at this
    obtain ⟨rfl, rfl, rfl⟩ := this
    exact ⟨rfl, hrel⟩
  | _ :: _ :: _, h2, _ => exact (run_fail h2).elim
theorem peek1_sound {E σ a w G} (h : Rel E σ a w G) {φ x L c σ' L'} (hr : (peek1 x).run φ σ L = some (c, σ', L')) : σ' = σ ∧ RelC E G σ.V w noG c (a.eval x) := by
  obtain ⟨row, σ1, L1, h1, h2⟩ := run_bind hr
  obtain ⟨rfl, hrel⟩ := peekRow_sound h h1
  match row, h2, hrel with
  | (true, _), h2, _ => exact (run_fail h2).elim
  | (false, []), h2, _ => exact (run_fail h2).elim
  | (false, [c']), h2, hrel =>
    have := run_ret h2
    simp at this
    obtain ⟨rfl, rfl, rfl⟩ := this
    exact ⟨rfl, hrel⟩
  | (false, _ :: _ :: _), h2, _ => exact (run_fail h2).elim
theorem put_sound {E σ a w G} (h : Rel E σ a w G) (x : Nat) {φ dst L rows v σ' L' u} (hr : RelRows E G σ.V w (G (park x)) rows v) (hrun : (put dst rows).run φ σ L = some (u, σ', L')) : S E σ' (a.put dst v) w := by
  cases dst with
  | none =>
    have := run_ret hrun
    simp at this
    obtain ⟨rfl, rfl⟩ := this
    exact h.toS
  | some d =>
    obtain ⟨hh, h2⟩ := run_wr hrun
    have := run_ret h2
    simp at this
    obtain ⟨rfl, rfl⟩ := this
    exact (h.put d x hh hr).toS
/-- A value that owns nothing. -/
theorem put_sound0 {E σ a w} (h : S E σ a w) {φ dst L rows v σ' L' u} (hr : ∀ G, Rel E σ a w G → (∀ y, G (park y) = noG) → RelRows E G σ.V w noG rows v) (hrun : (put dst rows).run φ σ L = some (u, σ', L')) : S E σ' (a.put dst v) w := by
  obtain ⟨G, hG, hp⟩ := h
  exact put_sound hG 0 (by rw [hp 0]; exact hr G hG hp) hrun
theorem takeCells_sound {E a w} (φ : Sems) (y i : Nat) (vs : Array Value) : ∀ (l : List C) (k0 : Nat) (σ : St) (G : GG), Rel E σ a w G →
    (∀ (j : Nat) c, l[j]? = some c → ∃ u, vs[k0 + j]? = some u ∧ RelC E G σ.V w noG c u) → (∀ k, k0 ≤ k → ∀ q, G (park y) (i :: k :: q) = none) →
    ∀ {L l' σ' L'}, (mapP takeC l).run φ σ L = some (l', σ', L') →
    ∃ G', Rel E σ' a w G' ∧ l'.length = l.length ∧ (∀ (j : Nat) c, l'[j]? = some c → ∃ u, vs[k0 + j]? = some u ∧ RelC E G' σ'.V w (fun q => G' (park y) (i :: (k0 + j) :: q)) c u) ∧
      Good G σ.V G' σ'.V ∧ (∀ z q, ¬ (z = y ∧ ∃ k, k0 ≤ k ∧ [i, k] <+: q) → G' (park z) q = G (park z) q)
  | [], k0, σ, G, h, _, _, L, l', σ', L', hrun => by
    have := run_ret hrun
    simp at this
    obtain ⟨rfl, rfl, rfl⟩ := this
    exact ⟨G, h, rfl, fun j c hj => by simp at hj, Good.refl _ _, fun _ _ _ => rfl⟩
  | c :: l, k0, σ, G, h, hc, hp, L, l', σ', L', hrun => by
    obtain ⟨c', σ1, L1, h1, h2⟩ := run_bind hrun
    obtain ⟨l1, σ2, L2, h3, h4⟩ := run_bind h2
    have := run_ret h4
    simp at this
    obtain ⟨rfl, rfl, rfl⟩ := this
    obtain ⟨u0, hu0, hr0⟩ := hc 0 c rfl
    obtain ⟨G1, hG1, hc1, hgood1, hpk1⟩ := take_sound h φ y i k0 (hp k0 (Nat.le_refl _)) hr0 h1
    obtain ⟨G2, hG2, hl2, hc2, hgood2, hpk2⟩ := takeCells_sound φ y i vs l (k0 + 1) σ1 G1 hG1
      (fun j c hj => by
        obtain ⟨u, hu, hr⟩ := hc (j + 1) c (by simpa using hj)
        exact ⟨u, by rw [← hu]; congr 1; omega, hr.good hgood1⟩)
      (fun k hk q => by
        rw [hpk1 y _ (by
          rintro ⟨_, hpre⟩
          rw [List.cons_prefix_cons, List.cons_prefix_cons] at hpre
          omega)]
        exact hp k (by omega) q) h3
    refine ⟨G2, hG2, by simp [hl2], fun j c hj => ?_, hgood1.trans hgood2, fun z q hz => ?_⟩
    · cases j with
      | zero =>
        simp at hj
        subst hj
        refine ⟨u0, hu0, ?_⟩
        have : (fun q => G2 (park y) (i :: (k0 + 0) :: q)) = fun q => G1 (park y) (i :: k0 :: q) := by
          funext q
          refine hpk2 y _ ?_
          rintro ⟨_, k, hk, hpre⟩
          rw [List.cons_prefix_cons, List.cons_prefix_cons] at hpre
          omega
        rw [this]
        exact hc1.good hgood2
      | succ j =>
        obtain ⟨u, hu, hr⟩ := hc2 j c (by simpa using hj)
        have e : k0 + 1 + j = k0 + (j + 1) := by omega
        rw [e] at hu hr
        exact ⟨u, hu, hr⟩
    · rw [hpk2 z q (fun ⟨e, k, hk, hpre⟩ => hz ⟨e, k, by omega, hpre⟩)]
      exact hpk1 z q fun ⟨e, hpre⟩ => hz ⟨e, k0, Nat.le_refl _, hpre⟩
/-- A row is taken: it is in flight at park y. -/
theorem takeRowC_sound {E σ a w G} (h : Rel E σ a w G) (φ : Sems) (y : Nat) (hp : G (park y) = noG) {row row' : Row} {v : Value} {L σ' L'} (hrel : RelRow E G σ.V w (fun _ => noG) row v)
    (hrun : (takeRowC row).run φ σ L = some (row', σ', L')) :
    ∃ G', Rel E σ' a w G' ∧ RelRow E G' σ'.V w (fun k q => G' (park y) (0 :: k :: q)) row' v ∧ row'.2.length = row.2.length ∧ Good G σ.V G' σ'.V ∧ ∀ z, z ≠ y → G' (park z) = G (park z) := by
  obtain ⟨l', σ1, L1, h1, h2⟩ := run_bind hrun
  have := run_ret h2
  simp at this
  obtain ⟨rfl, rfl, rfl⟩ := this
  by_cases hne : row.2 = []
  · obtain ⟨ag, cs⟩ := row
    simp only at hne h1
    subst hne
    have := run_ret h1
    simp at this
    obtain ⟨rfl, rfl, rfl⟩ := this
    refine ⟨G, h, ?_, rfl, Good.refl _ _, fun _ _ => rfl⟩
    cases ag with
    | false => exact hrel
    | true => obtain ⟨vs, e, hc⟩ := hrel; exact ⟨vs, e, hc.1, fun k c hk => by simp at hk⟩
  · obtain ⟨vs, hc, back⟩ := RelRow.cs (ag := row.1) (cs := row.2) hrel hne
    obtain ⟨G', hG', hl, hc', hgood, hpk⟩ := takeCells_sound φ y 0 vs row.2 0 σ G h (fun j c hj => by
      obtain ⟨u, hu, hr⟩ := hc.2 j c hj
      exact ⟨u, by rw [← hu]; congr 1; omega, hr⟩) (fun k _ q => by rw [hp]; rfl) h1
    refine ⟨G', hG', ?_, hl, hgood, fun z hz => funext fun q => hpk z q fun e => hz e.1⟩
    have hcs : RelCs E G' σ'.V w (fun k q => G' (park y) (0 :: k :: q)) l' vs := ⟨by rw [hl]; exact hc.1, fun k c hk => by
      obtain ⟨u, hu, hr⟩ := hc' k c hk
      rw [Nat.zero_add] at hu hr
      exact ⟨u, hu, hr⟩⟩
    exact back _ _ _ _ _ _ hl hcs
end Go.Mach
