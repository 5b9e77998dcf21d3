/- What a callee is told: memory that nobody writes meanwhile, and memory that is lent. Conditions: none (lemmas). -/
import Derived.Test.YtkbhcdenfigpoaaM8
set_option linter.all false
namespace Go.Mach
def calleeEnv (w : World) (D : Nat → Prop) : Env := ⟨w, D, 0, fun _ => undef, fun _ => none⟩
def gg0 : GG := fun _ => noG
def vv0 : Nat → Ver := fun _ => z0
/-- A cell as it is handed to a callee (D: the blocks that are lent). -/
def ArgC (w : World) (D : Nat → Prop) (c : C) (v : Value) : Prop := ∀ G V, RelC (calleeEnv w D) G V w noG c v
def ArgRow (w : World) (D : Nat → Prop) (row : Row) (v : Value) : Prop := ∀ G V, RelRow (calleeEnv w D) G V w (fun _ => noG) row v
section
variable {P : Program} {φ : Sems} {a : Act} {w : World} {D : Nat → Prop}
theorem at_nil (t : T) : t.at [] = some t := by cases t <;> rfl
theorem at_append : ∀ (p : Path) {t u : T} (q : Path), t.at p = some u → t.at (p ++ q) = u.at q
  | [], t, u, q, h => by rw [at_nil] at h; cases h; rfl
  | [j], t, u, q, h => by cases t <;> simp [T.at] at h
  | j :: k :: p, t, u, q, h => by
    cases t with
    | arr m n f =>
      simp only [List.cons_append, T.at] at h ⊢
      cases hb : (Nat.blt j n && Nat.blt k m) with
      | false => simp [hb] at h
      | true => simp only [hb, cond_true] at h ⊢; exact at_append p q h
    | _ => simp [T.at] at h
theorem rowsAt_append {rows : List Row} {p : Path} {t : T} (q : Path) (h : rowsAt rows p = some t) : rowsAt rows (p ++ q) = t.at q := by
  obtain ⟨i, k, q0, ag, cs, t0, rfl, h1, h2, h3⟩ := rowsAt_some h
  simp only [List.cons_append, rowsAt, h1, h2]
  exact at_append q0 q h3
theorem own_im {N : Nat → Prop} {t : T} {g : Gh} {v : Value} (h : RelOwn w t g v) (hN : ∀ q m n f ad c, t.at q = some (.arr m n f) → g q = some (ad, c) → ad.block < w.heap.size → N ad.block) : RelIm w N t v := by
  induction t generalizing g v with
  | int | bool | str | hole => exact h
  | lent m n => exact RelOwn.one h
  | arr m n f ih =>
    rcases h with ⟨_, rfl, rfl⟩ | ⟨b, off, cap, cs, e, hg, rfl, hn, hw, _, hh⟩
    · exact ⟨_, _, rfl, Nat.le_refl _, fun h => by omega⟩
    · refine ⟨_, _, rfl, hn.1, fun _ => ⟨b, off, rfl, hN [] m n f _ _ rfl hg (Array.getElem?_eq_some_iff.1 hw).1, fun j hj k hk => ?_⟩⟩
      obtain ⟨u, hu, hr⟩ := hh j hj k hk
      refine ⟨u, by rw [cell_of_row' hw]; exact hu, ih j k hr fun q m' n' f' ad c hq hg' => hN (j :: k :: q) m' n' f' ad c ?_ hg'⟩
      have hb : (Nat.blt j n && Nat.blt k m) = true := by simp only [Bool.and_eq_true, Nat.blt_eq]; exact ⟨hj, hk⟩
      simp only [T.at, hb, cond_true]
      exact hq
/-- What is lent lies nowhere where the state reads. -/
structure Clear (E : Env) (σ : St) (G : GG) (D : Nat → Prop) : Prop where
  out : ∀ b, D b → E.w0.heap.size ≤ b ∨ E.D b
  live : ∀ r p m n f ad c, notPark r → rowsAt (σ.get r).rows p = some (.arr m n f) → G r p = some (ad, c) → ¬ D ad.block
  boxes : ∀ t ad c, (σ.get (box t)).rows ≠ [] → G (box t) [] = some (ad, c) → ¬ D ad.block
theorem im_im {E σ G} (h : Rel E σ a w G) (hD : Clear E σ G D) {t : T} {v : Value} (hr : RelIm E.w0 E.N t v) : RelIm w (calleeEnv w D).N t v := by
  induction t generalizing v with
  | int | bool | str | hole | lent => exact hr
  | arr m n f ih =>
    obtain ⟨A, cap, rfl, hn, hh⟩ := hr
    refine ⟨A, cap, rfl, hn, fun h0 => ?_⟩
    obtain ⟨b, off, hA, hN, hc⟩ := hh h0
    refine ⟨b, off, hA, ⟨Nat.lt_of_lt_of_le hN.1 h.size, fun hd => ?_⟩, fun j hj k hk => ?_⟩
    · rcases hD.out b hd with h1 | h1
      · exact absurd hN.1 (by omega)
      · exact hN.2 h1
    · obtain ⟨u, hu, hrr⟩ := hc j hj k hk
      exact ⟨u, h.cell0 hN hu, ih j k hrr⟩
theorem own_clear {E σ G} (hD : Clear E σ G D) {r : Nat} {p : Path} (hnp : notPark r) {t : T} (hat : rowsAt (σ.get r).rows p = some t) {v : Value} (h : RelOwn w t (fun q => G r (p ++ q)) v) : RelIm w (calleeEnv w D).N t v :=
  own_im h fun q m n f ad c hq hg hlt => ⟨hlt, hD.live r (p ++ q) m n f ad c hnp (by rw [rowsAt_append q hat]; exact hq) hg⟩
theorem own_none {t : T} {v : Value} (h : RelOwn w t noG v) : RelIm w (calleeEnv w D).N t v := own_im h fun q m n f ad c _ hg => by cases hg
theorem cell_im {E σ G} (h : Rel E σ a w G) (hD : Clear E σ G D) {r : Nat} {i k : Nat} (hnp : notPark r) {ag cs} (hrow : (σ.get r).rows[i]? = some (ag, cs)) {c : C} (hc : cs[k]? = some c) {v : Value} (hr : RelC E G σ.V w (fun q => G r (i :: k :: q)) c v) : RelIm w (calleeEnv w D).N (imT c) v := by
  cases c with
  | tr o t => cases o with
    | true => exact own_clear (p := [i, k]) hD hnp (by simp only [rowsAt, hrow, hc]; exact at_nil t) hr
    | false => exact im_im h hD hr
  | _ => exact RelC.one hr
theorem resPt_sound {E σ G} (h : Rel E σ a w G) (hD : Clear E σ G D) {x : Pt} {v : Value} (hr : RelPt E G σ.V x v) {x' L σ' L'} (hrun : (resPt x).run φ σ L = some (x', σ', L')) : σ' = σ ∧ ∀ G V, RelPt (calleeEnv w D) G V x' v := by
  cases x with
  | pim m g =>
    have := run_ret (φ := φ) hrun
    simp only [Prod.mk.injEq] at this
    obtain ⟨rfl, rfl, rfl⟩ := this
    obtain ⟨b, o, rfl, hh⟩ := hr
    refine ⟨rfl, fun _ _ => ⟨b, o, rfl, fun i hi => ?_⟩⟩
    obtain ⟨hN, u, hu, hrr⟩ := hh i hi
    refine ⟨⟨Nat.lt_of_lt_of_le hN.1 h.size, fun hd => ?_⟩, u, h.cell0 hN hu, im_im h hD hrr⟩
    rcases hD.out b hd with h1 | h1
    · exact absurd hN.1 (by omega)
    · exact hN.2 h1
  | ptr r ver p m j k =>
    obtain ⟨b, o, rfl, ⟨hnp, hbox⟩, _, hval⟩ := hr
    simp only [resPt, runRd] at hrun
    obtain ⟨hb, hrun1⟩ := run_guard hrun
    obtain ⟨off, cap, hg, ho⟩ := hval (beq_eq hb)
    match p, hbox, hg, hrun1 with
    | [], hbox, hg, hrun1 =>
      obtain ⟨t', rfl | rfl | rfl⟩ := np_cases hnp
      · have := hbox rfl; unfold slot at this; omega
      rotate_left
      · have := hbox rfl; unfold ext at this; omega
      simp only at hrun1
      split at hrun1
      · rename_i ag cs hrow
        obtain ⟨hb2, hrun2⟩ := run_guard hrun1
        have hm := beq_eq hb2
        have := run_ret hrun2
        simp only [Prod.mk.injEq] at this
        obtain ⟨rfl, rfl, rfl⟩ := this
        have hrow0 := hrow
        rcases h.box' t' with h0 | ⟨row', b', cs', e', hrows, hg', hw, hc⟩
        · rw [h0] at hrow; simp at hrow
        · have hnd : ¬ D b := hD.boxes t' _ _ (by rw [hrows]; simp) hg
          rw [hrows] at hrow
          rw [hg] at hg'
          simp only [Option.some.injEq, Prod.mk.injEq, Addr.mk.injEq, and_true] at hg'
          obtain ⟨⟨rfl, rfl⟩, rfl⟩ := hg'
          cases j with
          | succ j => simp at hrow
          | zero =>
            simp only [List.getElem?_cons_zero, Option.some.injEq] at hrow
            subst hrow
            refine ⟨rfl, fun _ _ => ⟨b, o, rfl, fun i hi => ⟨⟨(Array.getElem?_eq_some_iff.1 hw).1, hnd⟩, ?_⟩⟩⟩
            have hlt : k + i < cs.length := by omega
            obtain ⟨u, hu, hrel⟩ := hc.2 _ _ (List.getElem?_eq_getElem (l := cs) hlt)
            refine ⟨u, by show w.cell? _ = _; rw [cell_of_row' hw, ← hu]; congr 1; omega, ?_⟩
            simp only [pimF_at, List.getElem?_eq_getElem hlt]
            exact cell_im h hD hnp hrow0 (List.getElem?_eq_getElem hlt) hrel
      · exact (run_fail hrun1).elim
    | x :: p', hbox, hg, hrun1 =>
      simp only at hrun1
      · obtain ⟨m', n', f, hat, _, hrun1a⟩ := run_arrAt hrun1
        replace hrun1a := run_guard hrun1a
        obtain ⟨hb2, hrun2⟩ := hrun1a
        simp only [Bool.and_eq_true, Nat.blt_eq] at hb2
        have hm := beq_eq hb2.1
        subst hm
        have := run_ret hrun2
        simp only [Prod.mk.injEq] at this
        obtain ⟨rfl, rfl, rfl⟩ := this
        have hnd : ¬ D b := hD.live _ _ _ _ _ _ _ hnp hat hg
        obtain ⟨b', off', cap', cs, e, hg', _, hw, _, hh⟩ := h.nested hnp hat (by omega)
        rw [hg] at hg'
        simp only [Option.some.injEq, Prod.mk.injEq, Addr.mk.injEq, and_true] at hg'
        obtain ⟨⟨rfl, rfl⟩, rfl⟩ := hg'
        refine ⟨rfl, fun _ _ => ⟨b, o, rfl, fun i hi => ⟨⟨(Array.getElem?_eq_some_iff.1 hw).1, hnd⟩, ?_⟩⟩⟩
        obtain ⟨u, hu, hrel⟩ := hh j hb2.2 (k + i) (by omega)
        refine ⟨u, by show w.cell? _ = _; rw [cell_of_row' hw, ← hu]; congr 1; omega, ?_⟩
        refine own_clear (w := w) (p := x :: p' ++ [j, k + i]) hD hnp ?_ (by simpa using hrel)
        rw [rowsAt_append _ hat]
        have hb : (Nat.blt j n' && Nat.blt (k + i) m) = true := by simp only [Bool.and_eq_true, Nat.blt_eq]; exact ⟨hb2.2, by omega⟩
        simp only [T.at, hb, cond_true]
theorem resPts_sound {E σ G} (h : Rel E σ a w G) (hD : Clear E σ G D) : ∀ (l : List Pt) (vs : Array Value) (i0 : Nat), (∀ (i : Nat) x, l[i]? = some x → ∃ u, vs[i0 + i]? = some u ∧ RelPt E G σ.V x u) → ∀ {l' L σ' L'}, (mapP resPt l).run φ σ L = some (l', σ', L') →
    σ' = σ ∧ l'.length = l.length ∧ ∀ (i : Nat) x, l'[i]? = some x → ∃ u, vs[i0 + i]? = some u ∧ ∀ G V, RelPt (calleeEnv w D) G V x u
  | [], vs, i0, _, l', L, σ', L', hrun => by
    have := run_ret (φ := φ) hrun
    simp only [Prod.mk.injEq] at this
    obtain ⟨rfl, rfl, rfl⟩ := this
    exact ⟨rfl, rfl, fun i x hi => by simp at hi⟩
  | x :: l, vs, i0, hp, l', L, σ', L', hrun => by
    obtain ⟨x', σ1, L1, h1, h2⟩ := run_bind hrun
    obtain ⟨u, hu, hr⟩ := hp 0 x rfl
    obtain ⟨rfl, hr'⟩ := resPt_sound h hD hr h1
    obtain ⟨l1, σ2, L2, h3, h4⟩ := run_bind h2
    obtain ⟨rfl, hl, hh⟩ := resPts_sound h hD l vs (i0 + 1) (fun i y hi => by
      obtain ⟨u', hu', hr''⟩ := hp (i + 1) y (by simpa using hi)
      exact ⟨u', by rw [← hu']; congr 1; omega, hr''⟩) h3
    have := run_ret h4
    simp only [Prod.mk.injEq] at this
    obtain ⟨rfl, rfl, rfl⟩ := this
    refine ⟨rfl, by simp [hl], fun i y hi => ?_⟩
    cases i with
    | zero => simp at hi; subst hi; exact ⟨u, hu, hr'⟩
    | succ i =>
      obtain ⟨u', hu', hr''⟩ := hh i y (by simpa using hi)
      exact ⟨u', by rw [← hu']; congr 1; omega, hr''⟩
theorem resC_sound {E σ G} (h : Rel E σ a w G) (hD : Clear E σ G D) {c : C} {v : Value} (hr : RelC E G σ.V w noG c v) {c' L σ' L'} (hrun : (resC c).run φ σ L = some (c', σ', L')) : σ' = σ ∧ ArgC w D c' v := by
  cases c with
  | tr o t =>
    have := run_ret (φ := φ) hrun
    simp only [Prod.mk.injEq] at this
    obtain ⟨rfl, rfl, rfl⟩ := this
    cases o with
    | true => exact ⟨rfl, fun _ _ => own_none hr⟩
    | false => exact ⟨rfl, fun _ _ => im_im h hD hr⟩
  | ref r ver p m s n =>
    simp only [resC, runRd] at hrun
    · obtain ⟨m0, n0, f0, hat, _, hrun1⟩ := run_arrAt hrun
      replace hrun1 := run_guard hrun1
      obtain ⟨hb, hrun2⟩ := hrun1
      simp only [Bool.and_eq_true] at hb
      obtain ⟨hb1, hb2, hb3⟩ := hb
      have e1 := beq_eq hb1
      have e2 := beq_eq hb2
      have e3 := Nat.le_of_ble_eq_true hb3
      subst e2
      have := run_ret hrun2
      simp only [Prod.mk.injEq] at this
      obtain ⟨rfl, rfl, rfl⟩ := this
      obtain ⟨A, cap, hv, hn, ⟨hnp, _⟩, _, hval⟩ := hr
      refine ⟨rfl, fun _ _ => ⟨A, cap, hv, hn, fun h0 => ?_⟩⟩
      obtain ⟨b, off, cap', cs, e, hg, _, hw, _, hh⟩ := h.nested hnp hat (by omega)
      rcases hval e1 with ⟨hg0, _⟩ | ⟨b', off', c', hg', _, hA⟩
      · rw [hg] at hg0; cases hg0
      · rw [hg] at hg'
        simp only [Option.some.injEq, Prod.mk.injEq, Addr.mk.injEq, and_true] at hg'
        obtain ⟨⟨rfl, rfl⟩, rfl⟩ := hg'
        refine ⟨b, off + s * m, hA h0, ⟨(Array.getElem?_eq_some_iff.1 hw).1, hD.live _ _ _ _ _ _ _ hnp hat hg⟩, fun j hj k hk => ?_⟩
        obtain ⟨u, hu, hrr⟩ := hh (s + j) (by omega) k hk
        refine ⟨u, ?_, ?_⟩
        · show w.cell? _ = _
          rw [cell_of_row' hw, ← hu]
          congr 1
          rw [Nat.add_mul]; omega
        · rw [cutT_in k hj]
          refine own_clear (w := w) (p := p ++ [s + j, k]) hD hnp ?_ (by simpa using hrr)
          rw [rowsAt_append _ hat]
          have hb : (Nat.blt (s + j) n0 && Nat.blt k m) = true := by simp only [Bool.and_eq_true, Nat.blt_eq]; exact ⟨by omega, hk⟩
          simp only [T.at, hb, cond_true]
  | pt x =>
    obtain ⟨x', σ1, L1, h1, h2⟩ := run_bind (φ := φ) (p := resPt x) hrun
    obtain ⟨rfl, hx⟩ := resPt_sound h hD hr h1
    have := run_ret h2
    simp only [Prod.mk.injEq] at this
    obtain ⟨rfl, rfl, rfl⟩ := this
    exact ⟨rfl, fun G V => hx G V⟩
  | fn f caps =>
    obtain ⟨caps', σ1, L1, h1, h2⟩ := run_bind (φ := φ) (p := mapP resPt caps) hrun
    obtain ⟨vs, hv, hs, hh⟩ := hr
    obtain ⟨rfl, hl, hh'⟩ := resPts_sound h hD caps vs 0 (fun i x hi => by
      obtain ⟨u, hu, hr⟩ := hh i x hi
      exact ⟨u, by rw [Nat.zero_add]; exact hu, hr⟩) h1
    have := run_ret h2
    simp only [Prod.mk.injEq] at this
    obtain ⟨rfl, rfl, rfl⟩ := this
    exact ⟨rfl, fun G V => ⟨vs, hv, by rw [hl]; exact hs, fun i x hi => by
      obtain ⟨u, hu, hr⟩ := hh' i x hi
      exact ⟨u, by rw [Nat.zero_add] at hu; exact hu, hr G V⟩⟩⟩
  | dead => exact (run_fail (φ := φ) hrun).elim
theorem resRow_sound {E σ G} (h : Rel E σ a w G) (hD : Clear E σ G D) {row : Row} {v : Value} (hr : RelRow E G σ.V w (fun _ => noG) row v) {row' L σ' L'} (hrun : (resRow row).run φ σ L = some (row', σ', L')) : σ' = σ ∧ ArgRow w D row' v := by
  obtain ⟨cs, σ1, L1, h1, h2⟩ := run_bind hrun
  have := run_ret h2
  simp only [Prod.mk.injEq] at this
  obtain ⟨rfl, rfl, rfl⟩ := this
  have key : ∀ (l : List C) (vs : Array Value) (i0 : Nat) {l' L σ'' L'}, (∀ (i : Nat) x, l[i]? = some x → ∃ u, vs[i0 + i]? = some u ∧ RelC E G σ.V w noG x u) → (mapP resC l).run φ σ L = some (l', σ'', L') →
      σ'' = σ ∧ l'.length = l.length ∧ ∀ (i : Nat) x, l'[i]? = some x → ∃ u, vs[i0 + i]? = some u ∧ ArgC w D x u := by
    intro l
    induction l with
    | nil =>
      intro vs i0 l' L σ'' L' _ hrun
      have := run_ret (φ := φ) hrun
      simp only [Prod.mk.injEq] at this
      obtain ⟨rfl, rfl, rfl⟩ := this
      exact ⟨rfl, rfl, fun i x hi => by simp at hi⟩
    | cons c l ih =>
      intro vs i0 l' L σ'' L' hp hrun
      obtain ⟨c', σ1, L1, h1, h2⟩ := run_bind hrun
      obtain ⟨u, hu, hr⟩ := hp 0 c rfl
      obtain ⟨rfl, hr'⟩ := resC_sound h hD hr h1
      obtain ⟨l1, σ2, L2, h3, h4⟩ := run_bind h2
      obtain ⟨rfl, hl, hh⟩ := ih vs (i0 + 1) (fun i y hi => by
        obtain ⟨u', hu', hr''⟩ := hp (i + 1) y (by simpa using hi)
        exact ⟨u', by rw [← hu']; congr 1; omega, hr''⟩) h3
      have := run_ret h4
      simp only [Prod.mk.injEq] at this
      obtain ⟨rfl, rfl, rfl⟩ := this
      refine ⟨rfl, by simp [hl], fun i y hi => ?_⟩
      cases i with
      | zero => simp at hi; subst hi; exact ⟨u, hu, hr'⟩
      | succ i =>
        obtain ⟨u', hu', hr''⟩ := hh i y (by simpa using hi)
        exact ⟨u', by rw [← hu']; congr 1; omega, hr''⟩
  obtain ⟨ag, cs0⟩ := row
  by_cases hne : cs0 = []
  · subst hne
    have := run_ret (φ := φ) h1
    simp only [Prod.mk.injEq] at this
    obtain ⟨rfl, rfl, rfl⟩ := this
    refine ⟨rfl, ?_⟩
    cases ag with
    | false => exact fun _ _ => hr
    | true => obtain ⟨vs, e, hc⟩ := hr; exact fun _ _ => ⟨vs, e, hc.1, fun k c hk => by simp at hk⟩
  · obtain ⟨vs, hc, back⟩ := hr.cs hne
    obtain ⟨rfl, hl, hh⟩ := key cs0 vs 0 (fun i x hi => by
      obtain ⟨u, hu, hr⟩ := hc.2 i x hi
      exact ⟨u, by rw [Nat.zero_add]; exact hu, hr⟩) h1
    exact ⟨rfl, fun G V => back _ _ _ _ _ _ hl ⟨by rw [hl]; exact hc.1, fun k c hk => by
      obtain ⟨u, hu, hr⟩ := hh k c hk
      exact ⟨u, by rw [Nat.zero_add] at hu; exact hu, hr G V⟩⟩⟩
/-! ### a change under a path -/
theorem own_chg {w : World} {u0 u : T} : (p : Path) → {t t' : T} → {g g' : Gh} → {v : Value} → RelOwn w t g v → t.at p = some u0 → t.put p u = some t' → (∀ q, ¬ p <+: q → g' q = g q) →
    (∀ x, RelOwn w u0 (fun q => g (p ++ q)) x → RelOwn w u (fun q => g' (p ++ q)) x) → RelOwn w t' g' v
  | [], t, t', g, g', v, h, ha, e, _, key => by
    rw [at_nil] at ha
    have : t' = u := by cases t <;> simp [T.put] at e <;> exact e.symm
    subst this
    obtain rfl := Option.some.inj ha
    exact key v h
  | [j], t, t', g, g', v, h, ha, e, _, _ => by cases t <;> simp [T.put] at e
  | j :: k :: q, t, t', g, g', v, h, ha, e, hg, key => by
    cases t with
    | arr m n f =>
      simp only [T.put] at e
      simp only [T.at] at ha
      cases hb : (Nat.blt j n && Nat.blt k m) with
      | false => simp [hb] at e
      | true =>
        simp only [hb, cond_true] at e ha
        simp only [Bool.and_eq_true, Nat.blt_eq] at hb
        cases hp : (f j k).put q u with
        | none => simp [hp] at e
        | some t1 =>
          simp only [hp, Option.some.injEq] at e
          subst e
          have hg0 : g' [] = g [] := hg [] (by simp)
          rcases h with ⟨_, h0, _⟩ | ⟨b, off, cap, cs, e', h1, h2, h3, h4, h5, h6⟩
          · omega
          · refine .inr ⟨b, off, cap, cs, e', hg0.trans h1, h2, h3, h4, h5, fun j' hj k' hk => ?_⟩
            obtain ⟨u1, hu, hr⟩ := h6 j' hj k' hk
            refine ⟨u1, hu, ?_⟩
            by_cases ej : j' = j ∧ k' = k
            · obtain ⟨rfl, rfl⟩ := ej
              simp only [beqT, Bool.and_self, cond_true]
              exact own_chg q hr ha hp (fun q' hq' => hg _ (by simpa using hq')) key
            · have : (Nat.beq j' j && Nat.beq k' k) = false := by
                by_cases e1 : j' = j
                · have e2 : k' ≠ k := fun e2 => ej ⟨e1, e2⟩
                  simp [beqF e2]
                · simp [beqF e1]
              simp only [this, cond_false]
              have : (fun q' => g' (j' :: k' :: q')) = fun q' => g (j' :: k' :: q') := funext fun q' => hg _ (by
                intro hpre
                rw [List.cons_prefix_cons, List.cons_prefix_cons] at hpre
                exact ej ⟨hpre.1.symm, hpre.2.1.symm⟩)
              rw [this]
              exact hr
    | _ => simp [T.put] at e
theorem RelRows.chg {E G V w g g' rows rows' v p u0 u} (h : RelRows E G V w g rows v) (hat : rowsAt rows p = some u0) (ha : rowsPut rows u p = some rows') (hg : ∀ q, ¬ p <+: q → g' q = g q)
    (key : ∀ x, RelOwn w u0 (fun q => g (p ++ q)) x → RelOwn w u (fun q => g' (p ++ q)) x) : RelRows E G V w g' rows' v := by
  obtain ⟨i, k, q, ag, cs, t0, t1, rfl, h1, h2, h3, rfl⟩ := rowsPut_some ha
  have h4 : t0.at q = some u0 := by simpa only [rowsAt, h1, h2] using hat
  obtain ⟨z, hr, back⟩ := h.row h1
  obtain ⟨vs, hc, back'⟩ := hr.cs (by rintro rfl; simp at h2)
  refine back g' _ (fun i' k' q' hne => hg _ fun hp => ?_) (back' _ _ _ _ _ _ (by simp) (hc.set (fun x hx => ?_) fun k' hk' => ?_))
  · rw [List.cons_prefix_cons] at hp
    exact hne hp.1.symm
  · obtain ⟨x', hx', hxr⟩ := hc.at h2
    rw [hx] at hx'
    obtain rfl := Option.some.inj hx'
    exact own_chg q hxr h4 h3 (fun q' hq' => hg _ (by simpa using hq')) key
  · funext q'
    exact hg _ fun hp => by
      rw [List.cons_prefix_cons, List.cons_prefix_cons] at hp
      exact hk' hp.2.1.symm
theorem RelBox.chg {E G V w g g' rows rows' p u0 u} (h : RelBox E G V w g rows) (hat : rowsAt rows p = some u0) (ha : rowsPut rows u p = some rows') (hg : ∀ q, ¬ p <+: q → g' q = g q)
    (key : ∀ x, RelOwn w u0 (fun q => g (p ++ q)) x → RelOwn w u (fun q => g' (p ++ q)) x) : RelBox E G V w g' rows' := by
  obtain ⟨i, k, q, ag, cs, t0, t1, rfl, h1, h2, h3, rfl⟩ := rowsPut_some ha
  have h4 : t0.at q = some u0 := by simpa only [rowsAt, h1, h2] using hat
  rcases h with rfl | ⟨row, b, vs, e, rfl, hb, hw, hc⟩
  · simp at h1
  · cases i with
    | succ i => simp at h1
    | zero =>
      simp at h1
      subst h1
      refine .inr ⟨(ag, cs.set k (.tr true t1)), b, vs, e, rfl, (hg [] (by simp)).trans hb, hw, hc.set (fun x hx => ?_) fun k' hk' => ?_⟩
      · obtain ⟨x', hx', hxr⟩ := hc.at h2
        rw [hx] at hx'
        obtain rfl := Option.some.inj hx'
        exact own_chg q hxr h4 h3 (fun q' hq' => hg _ (by simpa using hq')) key
      · funext q'
        exact hg _ fun hp => by
          rw [List.cons_prefix_cons, List.cons_prefix_cons] at hp
          exact hk' hp.2.1.symm
end
end Go.Mach
