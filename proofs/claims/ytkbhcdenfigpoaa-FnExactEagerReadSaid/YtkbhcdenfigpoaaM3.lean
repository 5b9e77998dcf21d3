/- Content that is taken away from where it lies. Conditions: none (lemmas). -/
import Derived.Test.YtkbhcdenfigpoaaM2
set_option linter.all false
namespace Go.Mach
theorem own_at {w : World} : (p : Path) → {t t' : T} → {g : Gh} → {v : Value} → RelOwn w t g v → t.at p = some t' → ∃ v', RelOwn w t' (fun q => g (p ++ q)) v'
  | [], t, t', g, v, h, e => by
    have : t = t' := by cases t <;> simpa [T.at] using e
    subst this
    exact ⟨v, h⟩
  | [j], t, t', g, v, h, e => by cases t <;> simp [T.at] at e
  | j :: k :: q, t, t', g, v, h, e => by
    cases t with
    | arr m n f =>
      simp only [T.at] at e
      cases hg : (Nat.blt j n && Nat.blt k m) with
      | false => simp [hg] at e
      | true =>
        simp only [hg, cond_true] at e
        simp only [Bool.and_eq_true, Nat.blt_eq] at hg
        rcases h with ⟨_, h0, _⟩ | ⟨b, off, cap, cs, e', h1, h2, h3, h4, h5, h6⟩
        · omega
        · obtain ⟨u, hu, hr⟩ := h6 j hg.1 k hg.2
          exact own_at q hr e
    | _ => simp [T.at] at e
theorem RelOwn.one {w : World} {t : T} {g : Gh} {v : Value} (h : RelOwn w t g v) : v.oneCell' = true := by
  cases t with
  | arr m n f =>
    rcases h with ⟨_, _, rfl⟩ | ⟨b, off, cap, cs, e', h1, rfl, _⟩ <;> rfl
  | int k n => cases h; rfl
  | bool b => cases h; rfl
  | str s => cases h; rfl
  | hole => exact h
  | lent m n => rcases h with ⟨_, _, rfl⟩ | ⟨b, off, cap, _, rfl, _⟩ <;> rfl
theorem own_hole {w : World} : (p : Path) → {t t' : T} → {g g' : Gh} → {v : Value} → RelOwn w t g v → t.put p .hole = some t' → (∀ q, ¬ p <+: q → g' q = g q) → RelOwn w t' g' v
  | [], t, t', g, g', v, h, e, _ => by
    have : t' = .hole := by cases t <;> simp [T.put] at e <;> exact e.symm
    subst this
    exact h.one
  | [j], t, t', g, g', v, h, e, _ => by cases t <;> simp [T.put] at e
  | j :: k :: q, t, t', g, g', v, h, e, hg => by
    cases t with
    | arr m n f =>
      simp only [T.put] at e
      cases hb : (Nat.blt j n && Nat.blt k m) with
      | false => simp [hb] at e
      | true =>
        simp only [hb, cond_true] at e
        simp only [Bool.and_eq_true, Nat.blt_eq] at hb
        cases hp : (f j k).put q .hole with
        | none => simp [hp] at e
        | some t1 =>
          simp only [hp, Option.some.injEq] at e
          subst e
          have hg0 : g' [] = g [] := hg [] (by simp)
          rcases h with ⟨_, h0, _⟩ | ⟨b, off, cap, cs, e', h1, h2, h3, h4, h5, h6⟩
          · omega
          · refine .inr ⟨b, off, cap, cs, e', hg0.trans h1, h2, h3, h4, h5, fun j' hj k' hk => ?_⟩
            obtain ⟨u, hu, hr⟩ := h6 j' hj k' hk
            refine ⟨u, hu, ?_⟩
            by_cases ej : j' = j ∧ k' = k
            · obtain ⟨rfl, rfl⟩ := ej
              simp only [beqT, Bool.and_self, cond_true]
              exact own_hole q hr hp fun q' hq' => hg _ (by simpa using hq')
            · have : (Nat.beq j' j && Nat.beq k' k) = false := by
                by_cases e1 : j' = j
                · have e2 : k' ≠ k := fun e2 => ej ⟨e1, e2⟩
                  simp [beqF e2]
                · simp [beqF e1]
              simp only [this, cond_false]
              have : (fun q' => g' (j' :: k' :: q')) = fun q' => g (j' :: k' :: q') := funext fun q' => hg _ (by
                intro hpre
                rw [List.cons_prefix_cons, List.cons_prefix_cons] at hpre
                exact ej ⟨hpre.1.symm, hpre.2.1.symm⟩)
              rw [this]
              exact hr
    | _ => simp [T.put] at e
theorem RelCs.set {E G V w g g' cs vs k c'} (h : RelCs E G V w g cs vs) (hk : ∀ u, vs[k]? = some u → RelC E G V w (g' k) c' u) (hg : ∀ k', k' ≠ k → g' k' = g k') :
    RelCs E G V w g' (cs.set k c') vs := by
  refine ⟨by simpa using h.1, fun i c hi => ?_⟩
  by_cases e : i = k
  · subst e
    have hlt : i < cs.length := by
      have := (List.getElem?_eq_some_iff.1 hi).1
      simpa using this
    have hv : i < vs.size := by rw [h.1]; exact hlt
    have : c = c' := by
      rw [List.getElem?_set_self hlt] at hi
      exact (Option.some.inj hi).symm
    subst this
    exact ⟨vs[i], Array.getElem?_eq_getElem hv, hk _ (Array.getElem?_eq_getElem hv)⟩
  · rw [List.getElem?_set_ne (fun x => e x.symm)] at hi
    rw [hg i e]
    exact h.2 i c hi
theorem RelCs.at {E G V w g cs vs k c} (h : RelCs E G V w g cs vs) (hk : cs[k]? = some c) : ∃ u, vs[k]? = some u ∧ RelC E G V w (g k) c u := h.2 k c hk
/-- A row that is no agg has one cell, or none. -/
theorem RelRow.cs {E G V w g ag cs v} (h : RelRow E G V w g (ag, cs) v) (hne : cs ≠ []) : ∃ vs : Array Value, RelCs E G V w g cs vs ∧
    (∀ E' G' V' w' g' cs', cs'.length = cs.length → RelCs E' G' V' w' g' cs' vs → RelRow E' G' V' w' g' (ag, cs') v) := by
  cases ag with
  | true =>
    obtain ⟨vs, e, hc⟩ := h
    exact ⟨vs, hc, fun _ _ _ _ g' cs' _ h' => ⟨vs, e, h'⟩⟩
  | false => match cs, h with
    | [], h => exact absurd rfl hne
    | [c], h =>
      refine ⟨#[v], ⟨rfl, fun k c' hk => ?_⟩, fun _ _ _ _ g' cs' hl h' => ?_⟩
      · cases k with
        | zero => simp at hk; subst hk; exact ⟨v, rfl, h⟩
        | succ k => simp at hk
      · match cs', hl with
        | [c'], _ =>
          obtain ⟨u, hu, hr⟩ := h'.2 0 c' rfl
          simp at hu
          subst hu
          exact hr
/-- One row of several, taken out and put back. -/
theorem RelRows.row {E G V w g rows v i row} (h : RelRows E G V w g rows v) (hi : rows[i]? = some row) : ∃ u, RelRow E G V w (fun k q => g (i :: k :: q)) row u ∧
    (∀ g' row', (∀ i' k q, i' ≠ i → g' (i' :: k :: q) = g (i' :: k :: q)) → RelRow E G V w (fun k q => g' (i :: k :: q)) row' u → RelRows E G V w g' (rows.set i row') v) := by
  match rows, h with
  | [], _ => simp at hi
  | [r], h =>
    cases i with
    | zero => simp at hi; subst hi; exact ⟨v, h, fun g' row' _ h' => h'⟩
    | succ i => simp at hi
  | r :: r' :: rs, ⟨vs, e, hs, hh⟩ =>
    obtain ⟨u, hu, hr⟩ := hh i row hi
    refine ⟨u, hr, fun g' row' hg h' => ?_⟩
    have hl : i < (r :: r' :: rs).length := (List.getElem?_eq_some_iff.1 hi).1
    have key : ∀ l : List Row, l = (r :: r' :: rs).set i row' → RelRows E G V w g' l v := by
      intro l el
      have hlen : l.length = (r :: r' :: rs).length := by rw [el]; simp
      match l, hlen, el with
      | a :: b :: l, hlen, el =>
        refine ⟨vs, e, by omega, fun i' row'' hi' => ?_⟩
        rw [el] at hi'
        by_cases e' : i' = i
        · subst e'
          rw [List.getElem?_set_self hl] at hi'
          obtain rfl := Option.some.inj hi'
          exact ⟨u, hu, h'⟩
        · rw [List.getElem?_set_ne (fun x => e' x.symm)] at hi'
          obtain ⟨u', hu', hr'⟩ := hh i' row'' hi'
          refine ⟨u', hu', ?_⟩
          have : (fun k q => g' (i' :: k :: q)) = fun k q => g (i' :: k :: q) := by funext k q; exact hg i' k q e'
          rw [this]
          exact hr'
    exact key _ rfl
theorem rowsAt_some {rows : List Row} {p : Path} {t : T} (h : rowsAt rows p = some t) : ∃ i k q ag cs t0, p = i :: k :: q ∧ rows[i]? = some (ag, cs) ∧ cs[k]? = some (.tr true t0) ∧ t0.at q = some t := by
  match p, h with
  | i :: k :: q, h =>
    simp only [rowsAt] at h
    split at h
    · rename_i ag cs h1
      split at h
      · rename_i t0 h2
        exact ⟨i, k, q, ag, cs, t0, rfl, h1, h2, h⟩
      · simp at h
    · simp at h
theorem rowsPut_some {rows rows' : List Row} {p : Path} {u : T} (h : rowsPut rows u p = some rows') : ∃ i k q ag cs t0 t1, p = i :: k :: q ∧ rows[i]? = some (ag, cs) ∧ cs[k]? = some (.tr true t0) ∧ t0.put q u = some t1 ∧
    rows' = rows.set i (ag, cs.set k (.tr true t1)) := by
  match p, h with
  | i :: k :: q, h =>
    simp only [rowsPut] at h
    split at h
    · rename_i ag cs h1
      split at h
      · rename_i t0 h2
        split at h
        · rename_i t1 h3
          exact ⟨i, k, q, ag, cs, t0, t1, rfl, h1, h2, h3, (Option.some.inj h).symm⟩
        · simp at h
      · simp at h
    · simp at h
theorem RelRows.at {E G V w g rows v p t} (h : RelRows E G V w g rows v) (ha : rowsAt rows p = some t) : ∃ v', RelOwn w t (fun q => g (p ++ q)) v' := by
  obtain ⟨i, k, q, ag, cs, t0, rfl, h1, h2, h3⟩ := rowsAt_some ha
  obtain ⟨u, hr, _⟩ := h.row h1
  obtain ⟨vs, hc, _⟩ := hr.cs (by rintro rfl; simp at h2)
  obtain ⟨x, _, hx⟩ := hc.at h2
  exact own_at q hx h3
theorem RelRows.hole {E G V w g g' rows rows' v p} (h : RelRows E G V w g rows v) (ha : rowsPut rows .hole p = some rows') (hg : ∀ q, ¬ p <+: q → g' q = g q) : RelRows E G V w g' rows' v := by
  obtain ⟨i, k, q, ag, cs, t0, t1, rfl, h1, h2, h3, rfl⟩ := rowsPut_some ha
  obtain ⟨u, hr, back⟩ := h.row h1
  obtain ⟨vs, hc, back'⟩ := hr.cs (by rintro rfl; simp at h2)
  refine back g' _ (fun i' k' q' hne => hg _ fun hp => ?_) (back' _ _ _ _ _ _ (by simp) (hc.set (fun x hx => ?_) fun k' hk' => ?_))
  · rw [List.cons_prefix_cons] at hp
    exact hne hp.1.symm
  · obtain ⟨x', hx', hxr⟩ := hc.at h2
    rw [hx] at hx'
    obtain rfl := Option.some.inj hx'
    exact own_hole q hxr h3 fun q' hq' => hg _ (by simpa using hq')
  · funext q'
    exact hg _ fun hp => by
      rw [List.cons_prefix_cons, List.cons_prefix_cons] at hp
      exact hk' hp.2.1.symm
/-- What a state says of a box. -/
def RelBox (E : Env) (G : GG) (V : Nat → Ver) (w : World) (g : Gh) (rows : List Row) : Prop :=
  rows = [] ∨ ∃ row b cs e, rows = [row] ∧ g [] = some (⟨b, 0, none⟩, 1) ∧ w.heap[b]? = some (.cells cs e (0, 0)) ∧ RelCs E G V w (fun k q => g (0 :: k :: q)) row.2 cs
theorem Rel.box' {E σ a w G} (h : Rel E σ a w G) (t : Nat) : RelBox E G (fun r => (σ.get r).ver) w (G (box t)) (σ.get (box t)).rows := h.boxes t
theorem RelBox.good {E G V G' V' w g rows} (h : Good G V G' V') (hx : RelBox E G V w g rows) : RelBox E G' V' w g rows :=
  hx.imp id fun ⟨row, b, cs, e, h1, h2, h3, h4⟩ => ⟨row, b, cs, e, h1, h2, h3, h4.good h⟩
theorem RelBox.at {E G V w g rows p t} (h : RelBox E G V w g rows) (ha : rowsAt rows p = some t) : ∃ v', RelOwn w t (fun q => g (p ++ q)) v' := by
  obtain ⟨i, k, q, ag, cs, t0, rfl, h1, h2, h3⟩ := rowsAt_some ha
  rcases h with rfl | ⟨row, b, vs, e, rfl, _, _, hc⟩
  · simp at h1
  · cases i with
    | succ i => simp at h1
    | zero =>
      simp at h1
      subst h1
      obtain ⟨x, _, hx⟩ := hc.at h2
      exact own_at q hx h3
theorem RelBox.hole {E G V w g g' rows rows' p} (h : RelBox E G V w g rows) (ha : rowsPut rows .hole p = some rows') (hg : ∀ q, ¬ p <+: q → g' q = g q) : RelBox E G V w g' rows' := by
  obtain ⟨i, k, q, ag, cs, t0, t1, rfl, h1, h2, h3, rfl⟩ := rowsPut_some ha
  rcases h with rfl | ⟨row, b, vs, e, rfl, hb, hw, hc⟩
  · simp at h1
  · cases i with
    | succ i => simp at h1
    | zero =>
      simp at h1
      subst h1
      refine .inr ⟨(ag, cs.set k (.tr true t1)), b, vs, e, rfl, (hg [] (by simp)).trans hb, hw, hc.set (fun x hx => ?_) fun k' hk' => ?_⟩
      · obtain ⟨x', hx', hxr⟩ := hc.at h2
        rw [hx] at hx'
        obtain rfl := Option.some.inj hx'
        exact own_hole q hxr h3 fun q' hq' => hg _ (by simpa using hq')
      · funext q'
        exact hg _ fun hp => by
          rw [List.cons_prefix_cons, List.cons_prefix_cons] at hp
          exact hk' hp.2.1.symm
theorem np_cases {r : Nat} (h : notPark r) : ∃ t, r = slot t ∨ r = box t ∨ r = ext t := by
  refine ⟨r / 4, ?_⟩
  unfold notPark at h
  unfold slot box ext
  omega
/-- A root's content is told anew: what lies in the root, and its ghost. -/
theorem Rel.rootV {E σ a w G G'} (h : Rel E σ a w G) (r : Nat) (hnp : notPark r) (rows : List Row) (V' : Ver) (hi : GInj G') (hr : GRng E w G') (hG : ∀ r', notPark r' → r' ≠ r → G' r' = G r') (hv : ∀ p, (σ.get r).ver p ≤ V' p ∧ (V' p = (σ.get r).ver p → G' r p = G r p))
    (hs : ∀ t, r = slot t → RelRows E G (fun r => (σ.get r).ver) w (G' r) rows (a.tmps.getD t undef))
    (hb : ∀ t, r = box t → RelBox E G (fun r => (σ.get r).ver) w (G' r) rows ∧ (E.nt ≤ t → G' r [] = E.xb t))
    (hx : ∀ t, r = ext t → RelRows E G (fun r => (σ.get r).ver) w (G' r) rows (E.x t)) (hhas : σ.has r = true) :
    Rel E (σ.set r ⟨V', rows⟩) a w G' ∧ Good G (fun r => (σ.get r).ver) G' (fun r' => ((σ.set r ⟨V', rows⟩).get r').ver) := by
  have hg : Good G (fun r => (σ.get r).ver) G' (fun r' => ((σ.set r ⟨V', rows⟩).get r').ver) := by
    intro r' hr' p
    simp only [get_set, hhas, and_true]
    by_cases e : r = r'
    · subst e
      simp only [if_true]
      exact hv p
    · simp [e, hG r' hr' (fun x => e x.symm)]
  have hget : ∀ r', r' ≠ r → (σ.set r ⟨V', rows⟩).get r' = σ.get r' := fun r' hne => by
    rw [get_set, if_neg fun x => hne x.1.symm]
  have hself : (σ.set r ⟨V', rows⟩).get r = ⟨V', rows⟩ := by rw [get_set, if_pos ⟨rfl, hhas⟩]
  refine ⟨{ nd := by rw [keys_set]; exact h.nd, inj := hi, rng := hr, os := h.os, tape := h.tape, output := h.output, size := h.size, kept := h.kept, slots := fun t => ?_, boxes := fun t => ?_, exts := fun t => ?_, xbox := fun t ht => ?_, defers := h.defers, tm := h.tm, here := fun t ht => h.here t (by rw [has_iff] at *; rwa [keys_set] at ht) }, hg⟩
  · by_cases e : slot t = r
    · rw [e, hself]
      exact (hs t e.symm).good hg
    · rw [hget _ e, hG _ (np_slot t) e]
      exact (h.slots t).good hg
  · by_cases e : box t = r
    · rw [e, hself]
      exact (hb t e.symm).1.good hg
    · rw [hget _ e, hG _ (np_box t) e]
      exact (h.box' t).good hg
  · by_cases e : ext t = r
    · rw [e, hself]
      exact (hx t e.symm).good hg
    · rw [hget _ e, hG _ (np_ext t) e]
      exact (h.exts t).good hg
  · by_cases e : box t = r
    · rw [e]
      exact (hb t e.symm).2 ht
    · rw [hG _ (np_box t) e]
      exact h.xbox t ht
theorem Rel.root {E σ a w G G'} (h : Rel E σ a w G) (r : Nat) (hnp : notPark r) (rows : List Row) (q : Path) (hi : GInj G') (hr : GRng E w G') (hG : ∀ r', notPark r' → r' ≠ r → G' r' = G r') (hq : ∀ p, ¬ q <+: p → G' r p = G r p)
    (hs : ∀ t, r = slot t → RelRows E G (fun r => (σ.get r).ver) w (G' r) rows (a.tmps.getD t undef))
    (hb : ∀ t, r = box t → RelBox E G (fun r => (σ.get r).ver) w (G' r) rows ∧ (E.nt ≤ t → G' r [] = E.xb t))
    (hx : ∀ t, r = ext t → RelRows E G (fun r => (σ.get r).ver) w (G' r) rows (E.x t)) (hhas : σ.has r = true) :
    Rel E (σ.set r ⟨bump q (σ.get r).ver, rows⟩) a w G' ∧ Good G (fun r => (σ.get r).ver) G' (fun r' => ((σ.set r ⟨bump q (σ.get r).ver, rows⟩).get r').ver) :=
  h.rootV r hnp rows _ hi hr hG (fun p => ⟨bump_le _ _ _, fun hb => hq p (bump_eq hb)⟩) hs hb hx hhas
/-- The ghost behind a move: what lay under (r, p) lies under (y, d). -/
def tkG (G : GG) (r : Nat) (p : Path) (y : Nat) (d : Path) : GG := fun r' q =>
  if r' = y ∧ d <+: q then G r (p ++ q.drop d.length) else if r' = r ∧ p <+: q then none else G r' q
theorem tkG_some {G : GG} {r p y d r' q z} (h : tkG G r p y d r' q = some z) :
    (r' = y ∧ (∃ q', q = d ++ q' ∧ G r (p ++ q') = some z)) ∨ (¬ (r' = r ∧ p <+: q) ∧ ¬ (r' = y ∧ d <+: q) ∧ G r' q = some z) := by
  unfold tkG at h
  split at h
  · rename_i h2
    obtain ⟨q', rfl⟩ := h2.2
    exact .inl ⟨h2.1, q', rfl, by simpa using h⟩
  · split at h
    · simp at h
    · exact .inr ⟨‹_›, ‹_›, h⟩
theorem tkG_inj {G : GG} (h : GInj G) (r p y d) : GInj (tkG G r p y d) := by
  intro r1 q1 r2 q2 ad c ad' c' h1 h2 hb
  rcases tkG_some h1 with ⟨e1, p1, rfl, g1⟩ | ⟨n1, m1, g1⟩ <;> rcases tkG_some h2 with ⟨e2, p2, rfl, g2⟩ | ⟨n2, m2, g2⟩
  · have := (h _ _ _ _ _ _ _ _ g1 g2 hb).2
    rw [List.append_cancel_left_eq] at this
    exact ⟨e1.trans e2.symm, by rw [this]⟩
  · obtain ⟨e, ep⟩ := h _ _ _ _ _ _ _ _ g1 g2 hb
    exact absurd ⟨e.symm, ep ▸ List.prefix_append _ _⟩ n2
  · obtain ⟨e, ep⟩ := h _ _ _ _ _ _ _ _ g1 g2 hb
    exact absurd ⟨e, ep ▸ List.prefix_append _ _⟩ n1
  · exact h _ _ _ _ _ _ _ _ g1 g2 hb
theorem tkG_rng {E w} {G : GG} (h : GRng E w G) (r p y d) : GRng E w (tkG G r p y d) := by
  intro r1 q1 ad c h1
  rcases tkG_some h1 with ⟨e1, p1, rfl, g1⟩ | ⟨n1, m1, g1⟩
  · exact h _ _ _ _ g1
  · exact h _ _ _ _ g1
theorem tkG_in (G : GG) (r p y d q) : tkG G r p y d y (d ++ q) = G r (p ++ q) := by
  unfold tkG
  rw [if_pos ⟨rfl, List.prefix_append _ _⟩]
  simp
theorem tkG_out {G : GG} {r p y d r' q} (h1 : ¬ (r' = y ∧ d <+: q)) (h2 : ¬ (r' = r ∧ p <+: q)) : tkG G r p y d r' q = G r' q := by
  unfold tkG
  rw [if_neg h1, if_neg h2]
theorem runRd {α : Type} {φ : Sems} {r : Nat} {k : Ct → Pr α} {σ : St} {L : Log} : (Pr.rd r k).run φ σ L = (k (σ.get r)).run φ σ ((r, false) :: L) := rfl
theorem run_guard {α : Type} {φ : Sems} {b : Bool} {k : Pr α} {σ : St} {L : Log} {y} (h : (guardP b k).run φ σ L = some y) : b = true ∧ k.run φ σ L = some y := by
  cases b with
  | true => exact ⟨rfl, h⟩
  | false => simp [guardP, Pr.run] at h
theorem run_bind {α β : Type} {φ : Sems} {p : Pr α} {g : α → Pr β} {σ : St} {L : Log} {y} (h : (p.bind g).run φ σ L = some y) :
    ∃ a σ' L', p.run φ σ L = some (a, σ', L') ∧ (g a).run φ σ' L' = some y := by
  induction p generalizing σ L with
  | ret a => exact ⟨a, σ, L, rfl, h⟩
  | rd r k ih => exact ih _ h
  | wr r c k ih =>
    simp only [Pr.bind, Pr.run] at h ⊢
    cases hs : σ.has r with
    | false => simp [hs] at h
    | true => simp only [hs, cond_true] at h ⊢; exact ih h
  | call f a k ih =>
    simp only [Pr.bind, Pr.run] at h ⊢
    rcases φ.det f a with hd | ⟨rs, outs, hd⟩
    · rw [hd] at h; cases h
    · rw [hd] at h
      rw [hd]
      exact ih _ _ h
  | ask f k ih => exact ih _ h
  | br b x y ihx ihy =>
    cases b with
    | true => exact ihx h
    | false => exact ihy h
  | fail => simp [Pr.bind, Pr.run] at h
theorem run_ret {α : Type} {φ : Sems} {a : α} {σ : St} {L : Log} {y} (h : (Pr.ret a).run φ σ L = some y) : y = (a, σ, L) := (Option.some.inj h).symm
theorem run_fail {α : Type} {φ : Sems} {σ : St} {L : Log} {y} (h : (Pr.fail : Pr α).run φ σ L = some y) : False := by simp [Pr.run] at h
theorem run_wr {α : Type} {φ : Sems} {r : Nat} {c : Ct} {k : Pr α} {σ : St} {L : Log} {y} (h : (Pr.wr r c k).run φ σ L = some y) : σ.has r = true ∧ k.run φ (σ.set r c) ((r, true) :: L) = some y := by
  simp only [Pr.run] at h
  cases hs : σ.has r with
  | false => simp [hs] at h
  | true => simp only [hs, cond_true] at h; exact ⟨rfl, h⟩
/-! ### paths that are there -/
theorem at_of_ok : ∀ (p : Path) (t : T), t.okAt p = true → t.at p = some (t.get p)
  | [], t, _ => by cases t <;> rfl
  | [j], t, h => by cases t <;> simp [T.okAt] at h
  | j :: k :: q, t, h => by
    cases t with
    | arr m n f =>
      simp only [T.okAt, Bool.and_eq_true] at h
      have hb : (Nat.blt j n && Nat.blt k m) = true := by simp only [Bool.and_eq_true]; exact h.1
      simp only [T.at, hb, cond_true, T.get]
      exact at_of_ok q _ h.2
    | _ => simp [T.okAt] at h
theorem put_of_ok : ∀ (p : Path) (t u : T), t.okAt p = true → t.put p u = some (t.set p u)
  | [], t, u, _ => by cases t <;> rfl
  | [j], t, u, h => by cases t <;> simp [T.okAt] at h
  | j :: k :: q, t, u, h => by
    cases t with
    | arr m n f =>
      simp only [T.okAt, Bool.and_eq_true] at h
      have hb : (Nat.blt j n && Nat.blt k m) = true := by simp only [Bool.and_eq_true]; exact h.1
      simp only [T.put, hb, cond_true, T.set]
      rw [put_of_ok q _ u h.2]
      rfl
    | _ => simp [T.okAt] at h
theorem rows_of_ok {rows : List Row} {p : Path} (h : rowsOk rows p = true) : rowsAt rows p = some (rowsGet rows p) ∧ ∀ u, rowsPut rows u p = some (rowsSet rows u p) := by
  match p with
  | [] => simp [rowsOk] at h
  | [_] => simp [rowsOk] at h
  | i :: k :: q =>
    simp only [rowsOk] at h
    split at h
    · rename_i g cs hi
      split at h
      · rename_i t hk
        have hc : rowsCell rows i k = t := by simp only [rowsCell, hi, hk]
        refine ⟨?_, fun u => ?_⟩
        · simp only [rowsAt, hi, hk, rowsGet, hc]
          exact at_of_ok q t h
        · simp only [rowsPut, hi, hk, rowsSet, hc]
          rw [put_of_ok q t u h]
      · cases h
    · cases h
theorem arr_of {t : T} (h : t.isArr = true) : t = .arr t.wd t.ln t.fn := by
  cases t with
  | arr m n f => rfl
  | _ => cases h
theorem run_arrAt {α : Type} {φ : Sems} {rows : List Row} {p : Path} {k : Nat → Nat → (Nat → Nat → T) → Pr α} {σ : St} {L : Log} {y} (h : (arrAt rows p k).run φ σ L = some y) :
    ∃ m n f, rowsAt rows p = some (.arr m n f) ∧ (∀ u, rowsPut rows u p = some (rowsSet rows u p)) ∧ (k m n f).run φ σ L = some y := by
  replace h := run_guard h
  obtain ⟨hb, h2⟩ := h
  simp only [Bool.and_eq_true] at hb
  obtain ⟨h3, h4⟩ := rows_of_ok hb.1
  exact ⟨_, _, _, by rw [h3]; congr 1; exact arr_of hb.2, h4, h2⟩
abbrev St.V (σ : St) : Nat → Ver := fun r => (σ.get r).ver
/-- TAKING: the cell's content is in flight at park x under [i, k]; what else was in flight there is still. -/
theorem take_sound {E σ a w G} (h : Rel E σ a w G) (φ : Sems) (x i k : Nat) (hp : ∀ q, G (park x) (i :: k :: q) = none) {c : C} {v : Value} (hc : RelC E G σ.V w noG c v)
    {L c' σ' L'} (hrun : (takeC c).run φ σ L = some (c', σ', L')) :
    ∃ G', Rel E σ' a w G' ∧ RelC E G' σ'.V w (fun q => G' (park x) (i :: k :: q)) c' v ∧ Good G σ.V G' σ'.V ∧ (∀ y q, ¬ (y = x ∧ [i, k] <+: q) → G' (park y) q = G (park y) q) := by
  have triv : (c', σ', L') = (c, σ, L) → ∃ G', Rel E σ' a w G' ∧ RelC E G' σ'.V w (fun q => G' (park x) (i :: k :: q)) c' v ∧ Good G σ.V G' σ'.V ∧ (∀ y q, ¬ (y = x ∧ [i, k] <+: q) → G' (park y) q = G (park y) q) := by
    rintro ⟨⟩
    refine ⟨G, h, ?_, Good.refl _ _, fun _ _ _ => rfl⟩
    have : (fun q => G (park x) (i :: k :: q)) = noG := funext hp
    rw [this]
    exact hc
  cases c with
  | tr o t => exact triv (run_ret hrun)
  | pt y => exact triv (run_ret hrun)
  | fn f caps => exact triv (run_ret hrun)
  | dead => exact triv (run_ret hrun)
  | ref r ver p m s n =>
    obtain ⟨hr4, hrun⟩ | ⟨hr4, hrun⟩ : (Nat.beq (r % 4) 2 = true ∧ (Pr.ret (C.ref r ver p m s n)).run φ σ L = some (c', σ', L')) ∨ (Nat.beq (r % 4) 2 = false ∧ (Pr.rd r fun ct => arrAt ct.rows p fun m' n' f => guardP (Nat.beq (ct.ver p) ver && (Nat.beq s 0 && (Nat.ble n n' && Nat.beq m m'))) (.wr r ⟨bump p ct.ver, rowsSet ct.rows .hole p⟩ (.ret (.tr true (.arr m n f))))).run φ σ L = some (c', σ', L')) := by
      simp only [takeC] at hrun
      cases h4 : Nat.beq (r % 4) 2 with
      | true => rw [h4] at hrun; exact .inl ⟨rfl, hrun⟩
      | false => rw [h4] at hrun; exact .inr ⟨rfl, hrun⟩
    · exact triv (run_ret hrun)
    obtain ⟨A, cap, rfl, hn, ⟨hnp, hpne⟩, hver, hval⟩ := hc
    simp only [runRd] at hrun
    · obtain ⟨m', n', f, hat, hputs, hrun1⟩ := run_arrAt hrun
      replace hrun1 := run_guard hrun1
      obtain ⟨hb, hrun2⟩ := hrun1
      simp only [Bool.and_eq_true] at hb
      obtain ⟨hb1, hb2, hb3, hb4⟩ := hb
      have e1 := beq_eq hb1; have e2 := beq_eq hb2; have e3 := Nat.le_of_ble_eq_true hb3; have e4 := beq_eq hb4
      subst e2; subst e4
      · have hput := hputs .hole
        generalize rowsSet (σ.get r).rows .hole p = rows at hrun2 hput
        obtain ⟨hhas, hrun⟩ := run_wr hrun2
        obtain ⟨rfl, rfl, rfl⟩ : c' = .tr true (.arr m n f) ∧ σ' = σ.set r ⟨bump p (σ.get r).ver, rows⟩ ∧ L' = (r, true) :: (r, false) :: L := by
          have := run_ret hrun
          simp at this
          exact this
        have hGin : GInj (tkG G r p (park x) [i, k]) := tkG_inj h.inj _ _ _ _
        have hGr : GRng E w (tkG G r p (park x) [i, k]) := tkG_rng h.rng _ _ _ _
        have hother : ∀ r', notPark r' → r' ≠ r → tkG G r p (park x) [i, k] r' = G r' := fun r' h1 h2 => funext fun q => tkG_out (fun e => np_ne_park h1 x e.1) (fun e => h2 e.1)
        have hin : ∀ q, ¬ p <+: q → tkG G r p (park x) [i, k] r q = G r q := fun q hq => tkG_out (fun e => np_ne_park hnp x e.1) (fun e => hq e.2)
        have hown : ∃ v', RelOwn w (.arr m n' f) (fun q => G r (p ++ q)) v' := by
          obtain ⟨t, rfl | rfl | rfl⟩ := np_cases hnp
          · exact (h.slots t).at hat
          · exact (h.box' t).at hat
          · exact (h.exts t).at hat
        obtain ⟨h1, h2⟩ := h.root r hnp rows p hGin hGr hother hin
          (fun t e => by
            subst e
            exact (h.slots t).hole hput hin)
          (fun t e => by
            subst e
            exact ⟨(h.box' t).hole hput hin, fun ht => (hin [] (by simpa using hpne)).trans (h.xbox t ht)⟩)
          (fun t e => by
            subst e
            exact (h.exts t).hole hput hin) hhas
        refine ⟨_, h1, ?_, h2, fun y q hq => ?_⟩
        · have hgh : (fun q => tkG G r p (park x) [i, k] (park x) (i :: k :: q)) = fun q => G r (p ++ q) := by
            funext q
            exact tkG_in G r p (park x) [i, k] q
          rw [hgh]
          obtain ⟨v', hv'⟩ := hown
          rcases hv' with ⟨g0, hn0, rfl⟩ | ⟨b, off, cap', cs, e, g0, rfl, hn', hh1, hh2, hh3⟩ <;> have g0' := g0 <;> simp only [List.append_nil] at g0'
          · rcases hval e1 with ⟨_, rfl, _, rfl, rfl⟩ | ⟨b, off, c, g1, _⟩
            · exact .inl ⟨g0, rfl, rfl⟩
            · rw [g0'] at g1; cases g1
          · rcases hval e1 with ⟨g1, _⟩ | ⟨b', off', c, g1, h3, _⟩
            · rw [g0'] at g1; cases g1
            · rw [g0'] at g1
              obtain ⟨rfl, rfl⟩ := h3 rfl
              cases g1
              exact .inr ⟨b, off, cap, cs, e, g0, rfl, ⟨hn, hn'.2⟩, hh1, hh2, fun j hj => hh3 j (by omega)⟩
        · exact tkG_out (fun e => hq ⟨park_inj e.1, e.2⟩) (fun e => np_ne_park hnp y e.1.symm)
end Go.Mach
