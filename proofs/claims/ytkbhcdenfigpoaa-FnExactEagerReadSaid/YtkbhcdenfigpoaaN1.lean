/- Memory is lent and given back. Conditions: none (lemmas). -/
import Derived.Test.YtkbhcdenfigpoaaM9
set_option linter.all false
namespace Go.Mach
section
variable {P : Program} {φ : Sems} {a : Act} {w : World} {D : Nat → Prop}
theorem at_put_ne {x u : T} : (p p2 : Path) → {t t' : T} → p.length = p2.length → p ≠ p2 → t.at p = some x → t.put p2 u = some t' → t'.at p = some x
  | [], [], _, _, _, hne, _, _ => absurd rfl hne
  | [], _ :: _, _, _, hl, _, _, _ => by simp at hl
  | _ :: _, [], _, _, hl, _, _, _ => by simp at hl
  | [j], _ :: _, t, _, _, _, ha, _ => by cases t <;> simp [T.at] at ha
  | _ :: _ :: _, [j], _, _, hl, _, _, _ => by simp at hl
  | j :: k :: p, j2 :: k2 :: p2, t, t', hl, hne, ha, hput => by
    cases t with
    | arr m n f =>
      simp only [T.put] at hput
      simp only [T.at] at ha
      cases hb : (Nat.blt j2 n && Nat.blt k2 m) with
      | false => simp [hb] at hput
      | true =>
        cases hb' : (Nat.blt j n && Nat.blt k m) with
        | false => simp [hb'] at ha
        | true =>
          simp only [hb, cond_true] at hput
          simp only [hb', cond_true] at ha
          cases hp : (f j2 k2).put p2 u with
          | none => simp [hp] at hput
          | some t1 =>
            simp only [hp, Option.some.injEq] at hput
            subst hput
            simp only [T.at, hb', cond_true]
            by_cases e : j = j2 ∧ k = k2
            · obtain ⟨rfl, rfl⟩ := e
              simp only [beqT, Bool.and_self, cond_true]
              exact at_put_ne p p2 (by simpa using hl) (fun e => hne (by rw [e])) ha hp
            · have : (Nat.beq j j2 && Nat.beq k k2) = false := by
                by_cases e1 : j = j2
                · have e2 : k ≠ k2 := fun e2 => e ⟨e1, e2⟩
                  simp [beqF e2]
                · simp [beqF e1]
              rw [this]
              exact ha
    | _ => simp [T.put] at hput
theorem rowsAt_put_ne {rows rows' : List Row} {p p2 : Path} {x u : T} (hl : p.length = p2.length) (hne : p ≠ p2) (ha : rowsAt rows p = some x) (hput : rowsPut rows u p2 = some rows') : rowsAt rows' p = some x := by
  obtain ⟨i2, k2, q2, ag2, cs2, t2, t2', rfl, h1, h2, h3, rfl⟩ := rowsPut_some hput
  obtain ⟨i, k, q, ag, cs, t0, rfl, g1, g2, g3⟩ := rowsAt_some ha
  by_cases ei : i = i2
  · subst ei
    rw [h1] at g1
    simp only [Option.some.injEq, Prod.mk.injEq] at g1
    obtain ⟨rfl, rfl⟩ := g1
    have hi : i < rows.length := (List.getElem?_eq_some_iff.1 h1).1
    simp only [rowsAt, List.getElem?_set_self hi]
    by_cases ek : k = k2
    · subst ek
      rw [h2] at g2
      simp only [Option.some.injEq, C.tr.injEq, true_and] at g2
      subst g2
      have hk : k < cs2.length := (List.getElem?_eq_some_iff.1 h2).1
      rw [List.getElem?_set_self hk]
      exact at_put_ne q q2 (by simpa using hl) (fun e => hne (by rw [e])) g3 h3
    · rw [List.getElem?_set_ne (fun e => ek e.symm), g2]
      exact g3
  · simp only [rowsAt]
    rw [List.getElem?_set_ne (fun e => ei e.symm), g1]
    simp only [g2]
    exact g3
theorem rowsAt_put_self {rows rows' : List Row} {p : Path} {u : T} (hput : rowsPut rows u p = some rows') : rowsAt rows' p = some u := by
  obtain ⟨i, k, q, ag, cs, t0, t1, rfl, h1, h2, h3, rfl⟩ := rowsPut_some hput
  have hi : i < rows.length := (List.getElem?_eq_some_iff.1 h1).1
  have hk : k < cs.length := (List.getElem?_eq_some_iff.1 h2).1
  simp only [rowsAt, List.getElem?_set_self hi, List.getElem?_set_self hk]
  have key : ∀ (q : Path) {t t' : T}, t.put q u = some t' → t'.at q = some u := by
    intro q
    induction q using List.rec with
    | nil =>
      intro t t' h
      have : t' = u := by cases t <;> simp [T.put] at h <;> exact h.symm
      rw [this]; exact at_nil u
    | cons j q _ => exact fun {t t'} h => key2 _ h
  exact key q h3
where
  key2 {u : T} : (q : Path) → {t t' : T} → t.put q u = some t' → t'.at q = some u
    | [], t, t', h => by
      have : t' = u := by cases t <;> simp [T.put] at h <;> exact h.symm
      rw [this]; exact at_nil u
    | [j], t, t', h => by cases t <;> simp [T.put] at h
    | j :: k :: q, t, t', h => by
      cases t with
      | arr m n f =>
        simp only [T.put] at h
        cases hb : (Nat.blt j n && Nat.blt k m) with
        | false => simp [hb] at h
        | true =>
          simp only [hb, cond_true] at h
          cases hp : (f j k).put q u with
          | none => simp [hp] at h
          | some t1 =>
            simp only [hp, Option.some.injEq] at h
            subst h
            simp only [T.at, hb, cond_true, beqT, Bool.and_self]
            exact key2 q hp
      | _ => simp [T.put] at h
/-- The ghost behind a loan: what lay under (r, p), not at it, lies under (y, d). -/
def ldG (G : GG) (r : Nat) (p : Path) (y : Nat) (d : Path) : GG := fun r' q =>
  if r' = y ∧ d <+: q ∧ d ≠ q then G r (p ++ q.drop d.length) else if r' = r ∧ p <+: q ∧ p ≠ q then none else G r' q
theorem ldG_some {G : GG} {r p y d r' q z} (h : ldG G r p y d r' q = some z) :
    (r' = y ∧ (∃ q', q' ≠ [] ∧ q = d ++ q' ∧ G r (p ++ q') = some z)) ∨ (¬ (r' = r ∧ p <+: q ∧ p ≠ q) ∧ G r' q = some z) := by
  unfold ldG at h
  split at h
  · rename_i h2
    obtain ⟨h3, ⟨q', rfl⟩, h4⟩ := h2
    exact .inl ⟨h3, q', fun e => h4 (by simp [e]), rfl, by simpa using h⟩
  · split at h
    · simp at h
    · exact .inr ⟨‹_›, h⟩
theorem ldG_inj {G : GG} (h : GInj G) (r p y d) : GInj (ldG G r p y d) := by
  intro r1 q1 r2 q2 ad c ad' c' h1 h2 hb
  rcases ldG_some h1 with ⟨e1, p1, ne1, rfl, g1⟩ | ⟨n1, g1⟩ <;> rcases ldG_some h2 with ⟨e2, p2, ne2, rfl, g2⟩ | ⟨n2, g2⟩
  · have := (h _ _ _ _ _ _ _ _ g1 g2 hb).2
    rw [List.append_cancel_left_eq] at this
    exact ⟨e1.trans e2.symm, by rw [this]⟩
  · obtain ⟨e, ep⟩ := h _ _ _ _ _ _ _ _ g1 g2 hb
    exact absurd ⟨e.symm, ep ▸ List.prefix_append _ _, fun e' => ne1 (by rw [← ep] at e'; simpa using e'.symm)⟩ n2
  · obtain ⟨e, ep⟩ := h _ _ _ _ _ _ _ _ g1 g2 hb
    exact absurd ⟨e, ep ▸ List.prefix_append _ _, fun e' => ne2 (by rw [ep] at e'; simpa using e'.symm)⟩ n1
  · exact h _ _ _ _ _ _ _ _ g1 g2 hb
theorem ldG_rng {E w} {G : GG} (h : GRng E w G) (r p y d) : GRng E w (ldG G r p y d) := by
  intro r1 q1 ad c h1
  rcases ldG_some h1 with ⟨e1, p1, _, rfl, g1⟩ | ⟨n1, g1⟩
  · exact h _ _ _ _ g1
  · exact h _ _ _ _ g1
theorem ldG_in (G : GG) (r p y d) {q} (hq : q ≠ []) : ldG G r p y d y (d ++ q) = G r (p ++ q) := by
  unfold ldG
  rw [if_pos ⟨rfl, List.prefix_append _ _, fun e => hq (by simpa using e.symm)⟩]
  simp
theorem ldG_out {G : GG} {r p y d r' q} (h1 : ¬ (r' = y ∧ d <+: q ∧ d ≠ q)) (h2 : ¬ (r' = r ∧ p <+: q ∧ p ≠ q)) : ldG G r p y d r' q = G r' q := by
  unfold ldG
  rw [if_neg h1, if_neg h2]
/-- A root's tree is told anew at a path; its header stays. -/
theorem Rel.rootD {E σ G} (h : Rel E σ a w G) {r y : Nat} {p d : Path} (hnp : notPark r) (hpar : ∀ t, r = t → notPark t) {u0 u : T} {rows' : List Row} (hat : rowsAt (σ.get r).rows p = some u0) (hput : rowsPut (σ.get r).rows u p = some rows') (hhas : σ.has r = true)
    {G' : GG} (hi : GInj G') (hr : GRng E w G') (hG : ∀ r', notPark r' → r' ≠ r → G' r' = G r') (hq : ∀ q, ¬ (p <+: q ∧ p ≠ q) → G' r q = G r q)
    (key : ∀ x, RelOwn w u0 (fun q => G r (p ++ q)) x → RelOwn w u (fun q => G' r (p ++ q)) x) (hy : y = y) (hd : d = d) :
    Rel E (σ.set r ⟨bumpD p (σ.get r).ver, rows'⟩) a w G' ∧ Good G σ.V G' (σ.set r ⟨bumpD p (σ.get r).ver, rows'⟩).V := by
  have hq' : ∀ q, ¬ p <+: q → G' r q = G r q := fun q hn => hq q fun e => hn e.1
  have hpne : p ≠ [] := by rintro rfl; simp [rowsAt] at hat
  refine h.rootV r hnp rows' _ hi hr hG (fun q => ⟨bumpD_le _ _ _, fun hb => hq q (bumpD_eq hb)⟩) (fun t e => ?_) (fun t e => ⟨?_, fun ht => ?_⟩) (fun t e => ?_) hhas
  · subst e
    exact (h.slots t).chg hat hput hq' key
  · subst e
    exact (h.box' t).chg hat hput hq' key
  · subst e
    rw [hq [] (by simp)]
    exact h.xbox t ht
  · subst e
    exact (h.exts t).chg hat hput hq' key
theorem lent_of_arr {w : World} {m n : Nat} {f : Nat → Nat → T} {g g' : Gh} {x : Value} (h : RelOwn w (.arr m n f) g x) (hg : g' [] = g []) : RelOwn w (.lent m n) g' x := by
  rcases h with ⟨h1, h2, h3⟩ | ⟨b, off, cap, cs, e, h1, h2, h3, _⟩
  · exact .inl ⟨hg.trans h1, h2, h3⟩
  · exact .inr ⟨b, off, cap, hg.trans h1, h2, h3⟩
theorem arr_of_lent {w : World} {m n : Nat} {f : Nat → Nat → T} {g g' : Gh} {x v : Value} (h : RelOwn w (.lent m n) g x) (h' : RelOwn w (.arr m n f) g' v) (hg : g' [] = g []) : RelOwn w (.arr m n f) g' x := by
  rcases h with ⟨h1, h2, rfl⟩ | ⟨b, off, cap, h1, rfl, h3⟩ <;> rcases h' with ⟨k1, k2, rfl⟩ | ⟨b', off', cap', cs, e, k1, rfl, k3⟩
  · exact .inl ⟨k1, k2, rfl⟩
  · rw [hg, h1] at k1; cases k1
  · rw [hg, h1] at k1; cases k1
  · have k1' := k1
    rw [hg, h1] at k1'
    cases k1'
    exact .inr ⟨_, _, _, cs, e, k1, rfl, k3⟩
/-- A cell is lent. -/
theorem lendC_sound {E σ G} (h : Rel E σ a w G) (φ : Sems) (y k : Nat) {c : C} {v : Value} (hc : RelC E G σ.V w noG c v) {L c' σ' L'} (hrun : (lendC c).run φ σ L = some (c', σ', L')) :
    ∃ G' t, c' = .tr true t ∧ Rel E σ' a w G' ∧ Good G σ.V G' σ'.V ∧ (∀ z q, ¬ (z = y ∧ [0, k] <+: q ∧ [0, k] ≠ q) → G' (park z) q = G (park z) q) ∧
      ((σ' = σ ∧ G' = G ∧ (∀ r ver p m s n, c ≠ .ref r ver p m s n) ∧ RelOwn w t noG v) ∨
        ∃ r ver p m n f rows', c = .ref r ver p m 0 n ∧ t = .arr m n f ∧ notPark r ∧ p ≠ [] ∧ rowsAt (σ.get r).rows p = some (.arr m n f) ∧ rowsPut (σ.get r).rows (.lent m n) p = some rows' ∧
          σ' = σ.set r ⟨bumpD p (σ.get r).ver, rows'⟩ ∧ σ.has r = true ∧ G' = ldG G r p (park y) [0, k] ∧ RelOwn w (.arr m n f) (fun q => G r (p ++ q)) v) := by
  have triv : (∀ r ver p m s n, c ≠ .ref r ver p m s n) → (finC c).run φ σ L = some (c', σ', L') → ∃ G' t, c' = .tr true t ∧ Rel E σ' a w G' ∧ Good G σ.V G' σ'.V ∧ (∀ z q, ¬ (z = y ∧ [0, k] <+: q ∧ [0, k] ≠ q) → G' (park z) q = G (park z) q) ∧
      ((σ' = σ ∧ G' = G ∧ (∀ r ver p m s n, c ≠ .ref r ver p m s n) ∧ RelOwn w t noG v) ∨
        ∃ r ver p m n f rows', c = .ref r ver p m 0 n ∧ t = .arr m n f ∧ notPark r ∧ p ≠ [] ∧ rowsAt (σ.get r).rows p = some (.arr m n f) ∧ rowsPut (σ.get r).rows (.lent m n) p = some rows' ∧
          σ' = σ.set r ⟨bumpD p (σ.get r).ver, rows'⟩ ∧ σ.has r = true ∧ G' = ldG G r p (park y) [0, k] ∧ RelOwn w (.arr m n f) (fun q => G r (p ++ q)) v) := by
    intro hne hr
    unfold finC at hr
    split at hr
    · rename_i t ht
      have := run_ret hr
      simp only [Prod.mk.injEq] at this
      obtain ⟨rfl, rfl, rfl⟩ := this
      exact ⟨G, t, rfl, h, Good.refl _ _, fun _ _ _ => rfl, .inl ⟨rfl, rfl, hne, ownT_rel hc ht⟩⟩
    · exact (run_fail hr).elim
  cases c with
  | tr o t => exact triv (by simp) hrun
  | pt x => exact triv (by simp) hrun
  | fn f caps => exact triv (by simp) hrun
  | dead => exact triv (by simp) hrun
  | ref r ver p m s n =>
    obtain ⟨A, cap, rfl, hn, ⟨hnp, hpne⟩, hver, hval⟩ := hc
    simp only [lendC, runRd] at hrun
    obtain ⟨m', n', f, hat, hputs, hrun1⟩ := run_arrAt hrun
    obtain ⟨hb, hrun2⟩ := run_guard hrun1
    simp only [Bool.and_eq_true] at hb
    obtain ⟨hb1, hb2, hb3, hb4⟩ := hb
    have e1 := beq_eq hb1; have e2 := beq_eq hb2; have e3 := beq_eq hb3; have e4 := beq_eq hb4
    subst e2; subst e3; subst e4
    have hput := hputs (.lent m n)
    generalize rowsSet (σ.get r).rows (.lent m n) p = rows' at hrun2 hput
    obtain ⟨hhas, hrun3⟩ := run_wr hrun2
    have := run_ret hrun3
    simp only [Prod.mk.injEq] at this
    obtain ⟨rfl, rfl, rfl⟩ := this
    have hown : RelOwn w (.arr m n f) (fun q => G r (p ++ q)) (.slice A n cap) := by
      have : ∃ v', RelOwn w (.arr m n f) (fun q => G r (p ++ q)) v' := by
        obtain ⟨t, rfl | rfl | rfl⟩ := np_cases hnp
        · exact (h.slots t).at hat
        · exact (h.box' t).at hat
        · exact (h.exts t).at hat
      obtain ⟨v', hv'⟩ := this
      have : v' = .slice A n cap := by
        rcases hv' with ⟨g0, _, rfl⟩ | ⟨b, off, cap', cs, e, g0, rfl, _⟩ <;> simp only [List.append_nil] at g0
        · rcases hval e1 with ⟨_, rfl, _, rfl, rfl⟩ | ⟨b, off, c, g1, _⟩
          · rfl
          · rw [g0] at g1; cases g1
        · rcases hval e1 with ⟨g1, _⟩ | ⟨b', off', c, g1, h3, _⟩
          · rw [g0] at g1; cases g1
          · rw [g0] at g1
            obtain ⟨rfl, rfl⟩ := h3 rfl
            cases g1
            rfl
      rw [← this]
      exact hv'
    obtain ⟨h1, h2⟩ := h.rootD (y := 0) (d := []) hnp (fun t e => e ▸ hnp) hat hput hhas (G' := ldG G r p (park y) [0, k]) (ldG_inj h.inj _ _ _ _) (ldG_rng h.rng _ _ _ _)
      (fun r' h1 h2 => funext fun q => ldG_out (fun e => np_ne_park h1 y e.1) (fun e => h2 e.1)) (fun q hq => ldG_out (fun e => np_ne_park hnp y e.1) (fun e => hq e.2))
      (fun x hx => lent_of_arr hx (by
        rw [List.append_nil]
        exact ldG_out (fun e => np_ne_park hnp y e.1) (fun e => e.2.2 rfl))) rfl rfl
    exact ⟨_, _, rfl, h1, h2, fun z q hq => ldG_out (fun e => hq ⟨park_inj e.1, e.2⟩) (fun e => np_ne_park hnp z e.1.symm), .inr ⟨r, ver, p, m, n, f, rows', rfl, rfl, hnp, hpne, hat, hput, rfl, hhas, rfl, hown⟩⟩
def cellG (G : GG) (y k : Nat) (c : C) : Gh := fun q => if q = [] then (match c with | .ref r _ p _ _ _ => G r p | _ => none) else G (park y) (0 :: k :: q)
theorem okPair_len {r : Nat} {p p' : Path} (h : okPair (r, p) (r, p') = true) : p.length = p'.length := by
  simp only [okPair, beqT, Bool.not_true, Bool.false_or, Bool.and_eq_true, lenLe_iff] at h
  omega
theorem lendCells_sound {E} (φ : Sems) (y : Nat) (vs : Array Value) : ∀ (l : List C) (k0 : Nat) (σ : St) (G : GG), Rel E σ a w G →
    (∀ (j : Nat) c, l[j]? = some c → ∃ u, vs[k0 + j]? = some u ∧ RelC E G σ.V w noG c u) → (∀ k, k0 ≤ k → ∀ q, G (park y) (0 :: k :: q) = none) → pairsOk (l.flatMap locOf) = true →
    ∀ {L l' σ' L'}, (mapP lendC l).run φ σ L = some (l', σ', L') →
    ∃ G', Rel E σ' a w G' ∧ l'.length = l.length ∧ Good G σ.V G' σ'.V ∧ (∀ z q, ¬ (z = y ∧ ∃ k, k0 ≤ k ∧ [0, k] <+: q) → G' (park z) q = G (park z) q) ∧
      (∀ (j : Nat) c', l'[j]? = some c' → ∃ u t c, l[j]? = some c ∧ vs[k0 + j]? = some u ∧ c' = .tr true t ∧ RelOwn w t (cellG G' y (k0 + j) c) u ∧ G' (park y) [0, k0 + j] = none ∧
        (∀ r ver p m s n, c = .ref r ver p m s n → notPark r ∧ p ≠ [] ∧ rowsAt (σ'.get r).rows p = some (.lent m n) ∧ ∃ f, t = .arr m n f)) ∧
      (∀ r1 p1 m1 n1, notPark r1 → rowsAt (σ.get r1).rows p1 = some (.lent m1 n1) → (∀ x ∈ l.flatMap locOf, okPair (r1, p1) x = true) →
        rowsAt (σ'.get r1).rows p1 = some (.lent m1 n1) ∧ G' r1 p1 = G r1 p1 ∧ ∀ (j : Nat) r ver p m s n, l[j]? = some (.ref r ver p m s n) → ¬ (r = r1 ∧ p = p1)) ∧
      (∀ (j j' : Nat) r ver p m s n ver' m' s' n', l[j]? = some (.ref r ver p m s n) → l[j']? = some (.ref r ver' p m' s' n') → j = j') ∧
      (∀ r1, notPark r1 → (∀ x ∈ l.flatMap locOf, x.1 ≠ r1) → σ'.get r1 = σ.get r1 ∧ G' r1 = G r1)
  | [], k0, σ, G, h, _, hp, _, L, l', σ', L', hrun => by
    have := run_ret hrun
    simp only [Prod.mk.injEq] at this
    obtain ⟨rfl, rfl, rfl⟩ := this
    exact ⟨G, h, rfl, Good.refl _ _, fun _ _ _ => rfl, fun j c hj => by simp at hj, fun r1 p1 m1 n1 _ h1 _ => ⟨h1, rfl, fun j r ver p m s n hj => by simp at hj⟩, fun j j' r ver p m s n ver' m' s' n' hj => by simp at hj, fun _ _ _ => ⟨rfl, rfl⟩⟩
  | c :: l, k0, σ, G, h, hc, hp, hpo, L, l', σ', L', hrun => by
    obtain ⟨c', σ1, L1, h1, h2⟩ := run_bind hrun
    obtain ⟨l1, σ2, L2, h3, h4⟩ := run_bind h2
    have := run_ret h4
    simp only [Prod.mk.injEq] at this
    obtain ⟨rfl, rfl, rfl⟩ := this
    obtain ⟨u0, hu0, hr0⟩ := hc 0 c rfl
    rw [Nat.add_zero] at hu0
    have hpo' : pairsOk (l.flatMap locOf) = true ∧ (∀ r ver p m s n, c = .ref r ver p m s n → ∀ x ∈ l.flatMap locOf, okPair (r, p) x = true) := by
      cases c with
      | ref r ver p m s n =>
        simp only [List.flatMap_cons, locOf, List.singleton_append, pairsOk, Bool.and_eq_true, List.all_eq_true] at hpo
        refine ⟨hpo.2, fun r' ver' p' m' s' n' e x hx => ?_⟩
        cases e
        exact hpo.1 x hx
      | _ => exact ⟨hpo, fun r ver p m s n e => by cases e⟩
    obtain ⟨G1, t, rfl, hG1, hgood1, hpk1, hcase⟩ := lendC_sound h φ y k0 hr0 h1
    have hp1 : ∀ k, k0 + 1 ≤ k → ∀ q, G1 (park y) (0 :: k :: q) = none := fun k hk q => by
      rw [hpk1 y _ (by
        rintro ⟨_, hpre, _⟩
        rw [List.cons_prefix_cons, List.cons_prefix_cons] at hpre
        omega)]
      exact hp k (by omega) q
    obtain ⟨G2, hG2, hl2, hgood2, hpk2, hcs2, hfr2, hdis2, hsame2⟩ := lendCells_sound φ y vs l (k0 + 1) σ1 G1 hG1
      (fun j c hj => by
        obtain ⟨u, hu, hr⟩ := hc (j + 1) c (by simpa using hj)
        exact ⟨u, by rw [← hu]; congr 1; omega, hr.good hgood1⟩) hp1 hpo'.1 h3
    have hpk3 : ∀ q, G2 (park y) (0 :: k0 :: q) = G1 (park y) (0 :: k0 :: q) := fun q => hpk2 y _ (by
      rintro ⟨_, k, hk, hpre⟩
      rw [List.cons_prefix_cons, List.cons_prefix_cons] at hpre
      omega)
    have hp0 : G1 (park y) [0, k0] = none := by
      rw [hpk1 y _ (fun e => e.2.2 rfl)]
      exact hp k0 (Nat.le_refl _) []
    refine ⟨G2, hG2, by simp [hl2], hgood1.trans hgood2, fun z q hz => ?_, fun j c' hj => ?_, fun r1 p1 m1 n1 hnp1 hat1 hok => ?_, fun j j' r ver p m s n ver' m' s' n' hj hj' => ?_, fun r1 hnp1 hne1 => ?_⟩
    · rw [hpk2 z q (fun ⟨e, k, hk, hpre⟩ => hz ⟨e, k, by omega, hpre⟩)]
      exact hpk1 z q fun ⟨e, hpre, _⟩ => hz ⟨e, k0, Nat.le_refl _, hpre⟩
    · cases j with
      | zero =>
        simp only [List.getElem?_cons_zero, Option.some.injEq] at hj
        subst hj
        refine ⟨u0, t, c, rfl, hu0, rfl, ?_, by rw [Nat.add_zero, hpk3]; exact hp0, fun r ver p m s n e => ?_⟩
        · rw [Nat.add_zero]
          rcases hcase with ⟨_, e, hne, hrel⟩ | ⟨r, ver, p, m, n, f, rows', rfl, rfl, hnp, hpne, hat, hput, rfl, hhas, rfl, hrel⟩
          · have : cellG G2 y k0 c = noG := by
              funext q
              unfold cellG
              split
              · split
                · rename_i hh; exact absurd rfl (hne _ _ _ _ _ _)
                · rfl
              · rw [hpk3, e]; exact hp k0 (Nat.le_refl _) q
            rw [this]
            exact hrel
          · have hh := hfr2 r p m n hnp (by rw [get_set, if_pos ⟨rfl, hhas⟩]; exact rowsAt_put_self hput) (hpo'.2 _ _ _ _ _ _ rfl)
            have : cellG G2 y k0 (.ref r ver p m 0 n) = fun q => G r (p ++ q) := by
              funext q
              unfold cellG
              split
              · rename_i e
                subst e
                rw [List.append_nil]
                exact hh.2.1.trans (ldG_out (fun e => np_ne_park hnp y e.1) (fun e => e.2.2 rfl))
              · rename_i e
                rw [hpk3]
                exact ldG_in G r p (park y) [0, k0] e
            rw [this]
            exact hrel
        · rcases hcase with ⟨_, _, hne, _⟩ | ⟨r', ver', p', m', n', f, rows', rfl, rfl, hnp, hpne, hat, hput, rfl, hhas, rfl, hrel⟩
          · exact absurd e (hne _ _ _ _ _ _)
          · cases e
            exact ⟨hnp, hpne, (hfr2 r p m n hnp (by rw [get_set, if_pos ⟨rfl, hhas⟩]; exact rowsAt_put_self hput) (hpo'.2 _ _ _ _ _ _ rfl)).1, f, rfl⟩
      | succ j =>
        obtain ⟨u, t', c0, h5, h6, h7, h8, h9, h10⟩ := hcs2 j c' (by simpa using hj)
        have e : k0 + 1 + j = k0 + (j + 1) := by omega
        rw [e] at h6 h8 h9
        exact ⟨u, t', c0, by simpa using h5, h6, h7, h8, h9, h10⟩
    · have hok1 : ∀ x ∈ l.flatMap locOf, okPair (r1, p1) x = true := fun x hx => hok x (by simp only [List.flatMap_cons, List.mem_append]; exact .inr hx)
      have hmid : rowsAt (σ1.get r1).rows p1 = some (.lent m1 n1) ∧ G1 r1 p1 = G r1 p1 ∧ ∀ r ver p m s n, c = .ref r ver p m s n → ¬ (r = r1 ∧ p = p1) := by
        rcases hcase with ⟨rfl, rfl, hne, _⟩ | ⟨r, ver, p, m, n, f, rows', rfl, rfl, hnp, hpne, hat, hput, rfl, hhas, rfl, hrel⟩
        · exact ⟨hat1, rfl, fun r ver p m s n e => absurd e (hne _ _ _ _ _ _)⟩
        · have hok0 := hok (r, p) (by simp [locOf])
          by_cases er : r = r1
          · subst er
            have hlen := okPair_len hok0
            have hne : p1 ≠ p := fun e => by rw [e, hat] at hat1; cases hat1
            refine ⟨by rw [get_set, if_pos ⟨rfl, hhas⟩]; exact rowsAt_put_ne hlen hne hat1 hput, ldG_out (fun e => np_ne_park hnp1 y e.1) (fun e => ?_), fun r' ver' p' m' s' n' e => ?_⟩
            · have := e.2.1.eq_of_length hlen.symm
              exact e.2.2 this
            · cases e
              exact fun e => hne e.2.symm
          · refine ⟨by rw [get_set, if_neg fun e => er e.1]; exact hat1, ldG_out (fun e => np_ne_park hnp1 y e.1) (fun e => er e.1.symm), fun r' ver' p' m' s' n' e => ?_⟩
            cases e
            exact fun e => er e.1
      obtain ⟨g1, g2, g3⟩ := hfr2 r1 p1 m1 n1 hnp1 hmid.1 hok1
      refine ⟨g1, g2.trans hmid.2.1, fun j r ver p m s n hj => ?_⟩
      cases j with
      | zero => exact hmid.2.2 r ver p m s n (by simpa using hj)
      | succ j => exact g3 j r ver p m s n (by simpa using hj)
    · have hzero : ∀ (j : Nat) ver m s n ver' m' s' n', c = .ref r ver p m s n → l[j]? = some (.ref r ver' p m' s' n') → False := fun j ver m s n ver' m' s' n' e hj2 => by
        rcases hcase with ⟨_, _, hne, _⟩ | ⟨r2, ver2, p2, m2, n2, f, rows', e2, rfl, hnp, hpne, hat, hput, rfl, hhas, rfl, hrel⟩
        · exact absurd e (hne _ _ _ _ _ _)
        · rw [e2] at e
          cases e
          exact (hfr2 r p _ _ hnp (by rw [get_set, if_pos ⟨rfl, hhas⟩]; exact rowsAt_put_self hput) (hpo'.2 _ _ _ _ _ _ e2)).2.2 j r ver' p m' s' n' hj2 ⟨rfl, rfl⟩
      cases j with
      | zero =>
        cases j' with
        | zero => rfl
        | succ j' => exact (hzero j' _ _ _ _ _ _ _ _ (by simpa using hj) (by simpa using hj')).elim
      | succ j =>
        cases j' with
        | zero => exact (hzero j _ _ _ _ _ _ _ _ (by simpa using hj') (by simpa using hj)).elim
        | succ j' => rw [hdis2 j j' r ver p m s n ver' m' s' n' (by simpa using hj) (by simpa using hj')]
    · obtain ⟨g1, g2⟩ := hsame2 r1 hnp1 fun x hx => hne1 x (by simp only [List.flatMap_cons, List.mem_append]; exact .inr hx)
      rcases hcase with ⟨rfl, rfl, hne, _⟩ | ⟨r, ver, p, m, n, f, rows', rfl, rfl, hnp, hpne, hat, hput, rfl, hhas, rfl, hrel⟩
      · exact ⟨g1, g2⟩
      · have er : r ≠ r1 := hne1 (r, p) (by simp [locOf])
        refine ⟨g1.trans (by rw [get_set, if_neg fun e => er e.1]), g2.trans (funext fun q => ldG_out (fun e => np_ne_park hnp1 y e.1) (fun e => er e.1.symm))⟩
end
end Go.Mach
