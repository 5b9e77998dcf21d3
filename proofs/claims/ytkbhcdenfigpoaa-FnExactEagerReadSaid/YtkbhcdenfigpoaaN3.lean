/- Calls are sound, where the callees' meanings are. Conditions: none (lemmas). -/
import Derived.Test.YtkbhcdenfigpoaaN2
set_option linter.all false
namespace Go.Mach
section
variable {P : Program} {φ : Sems} {a : Act} {w : World}
theorem finC_run {c c' : C} {σ σ' : St} {L L' : Log} (h : (finC c).run φ σ L = some (c', σ', L')) : σ' = σ ∧ ∃ t, ownT c = some t ∧ c' = .tr true t := by
  unfold finC at h
  split at h
  · rename_i t ht
    have := run_ret h
    simp only [Prod.mk.injEq] at this
    obtain ⟨rfl, rfl, _⟩ := this
    exact ⟨rfl, t, ht, rfl⟩
  · exact (run_fail h).elim
theorem finCs_run : ∀ {l l' : List C} {σ σ' : St} {L L' : Log}, (mapP finC l).run φ σ L = some (l', σ', L') → σ' = σ ∧ l'.length = l.length ∧ ∀ (k : Nat) c', l'[k]? = some c' → ∃ c t, l[k]? = some c ∧ ownT c = some t ∧ c' = .tr true t
  | [], l', σ, σ', L, L', h => by
    have := run_ret (φ := φ) h
    simp only [Prod.mk.injEq] at this
    obtain ⟨rfl, rfl, _⟩ := this
    exact ⟨rfl, rfl, fun k c' hk => by simp at hk⟩
  | c :: l, l', σ, σ', L, L', h => by
    obtain ⟨c1, σ1, L1, h1, h2⟩ := run_bind h
    obtain ⟨rfl, t, ht, rfl⟩ := finC_run h1
    obtain ⟨l1, σ2, L2, h3, h4⟩ := run_bind h2
    obtain ⟨rfl, hl, hh⟩ := finCs_run h3
    have := run_ret h4
    simp only [Prod.mk.injEq] at this
    obtain ⟨rfl, rfl, _⟩ := this
    refine ⟨rfl, by simp [hl], fun k c' hk => ?_⟩
    cases k with
    | zero => simp at hk; subst hk; exact ⟨c, t, rfl, ht, rfl⟩
    | succ k =>
      obtain ⟨c2, t2, h5, h6, h7⟩ := hh k c' (by simpa using hk)
      exact ⟨c2, t2, by simpa using h5, h6, h7⟩
theorem finRow_rel {E G V w g ag l l' v} (hr : RelRow E G V w g (ag, l) v) (hl : l'.length = l.length) (hh : ∀ (k : Nat) c', l'[k]? = some c' → ∃ c t, l[k]? = some c ∧ ownT c = some t ∧ c' = C.tr true t) :
    ∀ E' G' V', RelRow E' G' V' w g (ag, l') v := by
  intro E' G' V'
  by_cases hne : l = []
  · subst hne
    have : l' = [] := List.eq_nil_of_length_eq_zero hl
    subst this
    cases ag with
    | false => exact hr
    | true => obtain ⟨vs, e, hc⟩ := hr; exact ⟨vs, e, hc.1, fun k c hk => by simp at hk⟩
  · obtain ⟨vs, hc, back⟩ := hr.cs hne
    refine back _ _ _ _ _ _ hl ⟨by rw [hl]; exact hc.1, fun k c' hk => ?_⟩
    obtain ⟨c, t, h1, h2, rfl⟩ := hh k c' hk
    obtain ⟨u, hu, hrel⟩ := hc.2 k c h1
    exact ⟨u, hu, ownT_rel hrel h2⟩
theorem finRow_sound {E G V g row row' v} {σ σ' : St} {L L' : Log} (hr : RelRow E G V w g row v) (hrun : (finRow row).run φ σ L = some (row', σ', L')) :
    σ' = σ ∧ row'.2.length = row.2.length ∧ allOwn row'.2 ∧ ∀ E' G' V', RelRow E' G' V' w g row' v := by
  obtain ⟨cs, σ1, L1, h1, h2⟩ := run_bind hrun
  obtain ⟨rfl, hl, hh⟩ := finCs_run h1
  have := run_ret h2
  simp only [Prod.mk.injEq] at this
  obtain ⟨rfl, rfl, _⟩ := this
  refine ⟨rfl, hl, fun k c hk => ?_, finRow_rel (ag := row.1) (l := row.2) hr hl hh⟩
  obtain ⟨c, t, _, _, rfl⟩ := hh k c hk
  exact ⟨t, rfl⟩
theorem headD_getD (md : List Nat) : md.headD 0 = md.getD 0 0 := by cases md <;> rfl
theorem tail_getD (md : List Nat) (j : Nat) : md.tail.getD j 0 = md.getD (j + 1) 0 := by cases md <;> simp
theorem takesP_sound {E} (φ : Sems) : ∀ (xs : List Operand) (md : List Nat) (i0 : Nat) (σ : St) (G : GG), Rel E σ a w G → (∀ z, i0 < z → G (park z) = noG) → ∀ {L rows σ' L'}, (takesP md xs).run φ σ L = some (rows, σ', L') →
    ∃ G', Rel E σ' a w G' ∧ rows.length = xs.length ∧ Good G σ.V G' σ'.V ∧ (∀ z, z ≤ i0 → G' (park z) = G (park z)) ∧ (∀ z, i0 + xs.length < z → G' (park z) = noG) ∧
      (∀ (j : Nat) x row, xs[j]? = some x → rows[j]? = some row → (md.getD j 0 = 3 → allOwn row.2 ∧ ∀ E' G'' V', RelRow E' G'' V' w (fun k q => G' (park (i0 + j + 1)) (0 :: k :: q)) row (a.eval x)) ∧ (md.getD j 0 ≠ 3 → G' (park (i0 + j + 1)) = noG))
  | [], md, i0, σ, G, h, hp, L, rows, σ', L', hrun => by
    have := run_ret (φ := φ) hrun
    simp only [Prod.mk.injEq] at this
    obtain ⟨rfl, rfl, rfl⟩ := this
    exact ⟨G, h, rfl, Good.refl _ _, fun _ _ => rfl, fun z hz => hp z (by simpa using hz), fun j x row hj => by simp at hj⟩
  | x :: xs, md, i0, σ, G, h, hp, L, rows, σ', L', hrun => by
    obtain ⟨row, σ1, L1, h1, h2⟩ := run_bind hrun
    obtain ⟨rows1, σ2, L2, h3, h4⟩ := run_bind h2
    have := run_ret h4
    simp only [Prod.mk.injEq] at this
    obtain ⟨rfl, rfl, rfl⟩ := this
    have hfirst : ∃ G1, Rel E σ1 a w G1 ∧ Good G σ.V G1 σ1.V ∧ (∀ z, z ≠ i0 + 1 → G1 (park z) = G (park z)) ∧
        (md.getD 0 0 = 3 → allOwn row.2 ∧ ∀ E' G'' V', RelRow E' G'' V' w (fun k q => G1 (park (i0 + 1)) (0 :: k :: q)) row (a.eval x)) ∧ (md.getD 0 0 ≠ 3 → G1 (park (i0 + 1)) = noG) := by
      rw [headD_getD] at h1
      cases ht : Nat.beq (md.getD 0 0) 3 with
      | false =>
        rw [ht] at h1
        have := run_ret (φ := φ) h1
        simp only [Prod.mk.injEq] at this
        obtain ⟨rfl, rfl, rfl⟩ := this
        refine ⟨G, h, Good.refl _ _, fun _ _ => rfl, fun e => ?_, fun _ => hp _ (by omega)⟩
        rw [e, beqT] at ht; cases ht
      | true =>
        rw [ht] at h1
        simp only [cond_true] at h1
        obtain ⟨row0, σ3, L3, h5, h6⟩ := run_bind h1
        obtain ⟨rfl, hr⟩ := peekRow_sound h h5
        obtain ⟨row2, σ4, L4, h7, h8⟩ := run_bind h6
        obtain ⟨G1, hG1, hr1, _, hgood, hpk⟩ := takeRowC_sound h φ (i0 + 1) (hp _ (by omega)) hr h7
        obtain ⟨rfl, _, hall, hrel⟩ := finRow_sound hr1 h8
        exact ⟨G1, hG1, hgood, hpk, fun _ => ⟨hall, hrel⟩, fun e => absurd (beq_eq ht) e⟩
    obtain ⟨G1, hG1, hgood1, hpk1, ha, hb⟩ := hfirst
    obtain ⟨G2, hG2, hl, hgood2, hlow, hhigh, hh⟩ := takesP_sound φ xs md.tail (i0 + 1) σ1 G1 hG1 (fun z hz => by rw [hpk1 z (by omega)]; exact hp z (by omega)) h3
    refine ⟨G2, hG2, by simp [hl], hgood1.trans hgood2, fun z hz => by rw [hlow z (by omega), hpk1 z (by omega)], fun z hz => hhigh z (by simp at hz; omega), fun j x' row' hj hj' => ?_⟩
    cases j with
    | zero =>
      simp only [List.getElem?_cons_zero, Option.some.injEq] at hj hj'
      subst hj; subst hj'
      rw [Nat.add_zero, hlow _ (Nat.le_refl _)]
      exact ⟨ha, hb⟩
    | succ j =>
      have := hh j x' row' (by simpa using hj) (by simpa using hj')
      rw [tail_getD] at this
      have e : i0 + 1 + j + 1 = i0 + (j + 1) + 1 := by omega
      rw [e] at this
      exact this
theorem lentAt_spec : ∀ (xs : List Operand) (md : List Nat) (i0 : Nat), (∀ y ∈ lentAt i0 md xs, ∃ j, y.1 = i0 + j ∧ xs[j]? = some y.2.2 ∧ md.getD j 0 = y.2.1 ∧ (y.2.1 = 1 ∨ y.2.1 = 2)) ∧
    (∀ (j : Nat) x, xs[j]? = some x → md.getD j 0 = 1 ∨ md.getD j 0 = 2 → (i0 + j, md.getD j 0, x) ∈ lentAt i0 md xs)
  | [], md, i0 => ⟨fun y hy => by simp [lentAt] at hy, fun j x hj => by simp at hj⟩
  | x :: xs, md, i0 => by
    obtain ⟨h1, h2⟩ := lentAt_spec xs md.tail (i0 + 1)
    have hb : (Nat.beq (md.headD 0) 1 || Nat.beq (md.headD 0) 2) = true ↔ (md.getD 0 0 = 1 ∨ md.getD 0 0 = 2) := by
      rw [headD_getD, Bool.or_eq_true]
      exact ⟨fun h => h.imp beq_eq beq_eq, fun h => h.imp (fun e => by rw [e]; rfl) fun e => by rw [e]; rfl⟩
    simp only [lentAt]
    constructor
    · intro y hy
      have key : y ∈ lentAt (i0 + 1) md.tail xs → ∃ j, y.1 = i0 + j ∧ (x :: xs)[j]? = some y.2.2 ∧ md.getD j 0 = y.2.1 ∧ (y.2.1 = 1 ∨ y.2.1 = 2) := fun hy => by
        obtain ⟨j, h3, h4, h5, h6⟩ := h1 y hy
        exact ⟨j + 1, by omega, by simpa using h4, by rw [← tail_getD]; exact h5, h6⟩
      cases hc : (Nat.beq (md.headD 0) 1 || Nat.beq (md.headD 0) 2) with
      | false => rw [hc] at hy; exact key hy
      | true =>
        rw [hc] at hy
        simp only [cond_true, List.mem_cons] at hy
        rcases hy with rfl | hy
        · exact ⟨0, rfl, rfl, (headD_getD md).symm, by rw [headD_getD]; exact hb.1 hc⟩
        · exact key hy
    · intro j x' hj hm
      have key : ∀ j, xs[j]? = some x' → md.getD (j + 1) 0 = 1 ∨ md.getD (j + 1) 0 = 2 → (i0 + (j + 1), md.getD (j + 1) 0, x') ∈ lentAt (i0 + 1) md.tail xs := fun j hj hm => by
        have := h2 j x' hj (by rw [tail_getD]; exact hm)
        rw [tail_getD] at this
        have e : i0 + 1 + j = i0 + (j + 1) := by omega
        rw [e] at this
        exact this
      cases j with
      | zero =>
        simp only [List.getElem?_cons_zero, Option.some.injEq] at hj
        subst hj
        rw [hb.2 hm]
        simp only [cond_true, List.mem_cons]
        exact .inl (by rw [headD_getD, Nat.add_zero])
      | succ j =>
        have := key j (by simpa using hj) hm
        cases (Nat.beq (md.headD 0) 1 || Nat.beq (md.headD 0) 2) with
        | false => exact this
        | true => exact List.mem_cons_of_mem _ this
theorem restP_sound {E σ G} {D : Nat → Prop} (h : Rel E σ a w G) (hD : Clear E σ G D) (lr : Row) : ∀ (xs : List Operand) (md : List Nat) (ts : List Row) {args L σ' L'}, ts.length = xs.length → (restP md xs ts lr).run φ σ L = some (args, σ', L') →
    σ' = σ ∧ args.length = xs.length ∧ ∀ (j : Nat) x, xs[j]? = some x → ∃ arg, args[j]? = some arg ∧ (md.getD j 0 = 3 → ∃ t, ts[j]? = some t ∧ arg = (3, t)) ∧ (md.getD j 0 = 1 ∨ md.getD j 0 = 2 → arg = (md.getD j 0, lr)) ∧
      (¬ (md.getD j 0 = 3 ∨ md.getD j 0 = 1 ∨ md.getD j 0 = 2) → arg.1 = 0 ∧ ArgRow w D arg.2 (a.eval x))
  | [], md, [], args, L, σ', L', _, hrun => by
    have := run_ret (φ := φ) hrun
    simp only [Prod.mk.injEq] at this
    obtain ⟨rfl, rfl, rfl⟩ := this
    exact ⟨rfl, rfl, fun j x hj => by simp at hj⟩
  | x :: xs, md, t :: ts, args, L, σ', L', hl, hrun => by
    obtain ⟨arg, σ1, L1, h1, h2⟩ := run_bind hrun
    obtain ⟨args1, σ2, L2, h3, h4⟩ := run_bind h2
    have := run_ret h4
    simp only [Prod.mk.injEq] at this
    obtain ⟨rfl, rfl, rfl⟩ := this
    have hfirst : σ1 = σ ∧ (md.getD 0 0 = 3 → arg = (3, t)) ∧ (md.getD 0 0 = 1 ∨ md.getD 0 0 = 2 → arg = (md.getD 0 0, lr)) ∧ (¬ (md.getD 0 0 = 3 ∨ md.getD 0 0 = 1 ∨ md.getD 0 0 = 2) → arg.1 = 0 ∧ ArgRow w D arg.2 (a.eval x)) := by
      rw [headD_getD] at h1
      cases h3b : Nat.beq (md.getD 0 0) 3 with
      | true =>
        rw [h3b] at h1
        have := run_ret (φ := φ) h1
        simp only [Prod.mk.injEq] at this
        obtain ⟨rfl, rfl, rfl⟩ := this
        have e := beq_eq h3b
        exact ⟨rfl, fun _ => rfl, fun hm => by omega, fun hm => absurd (.inl e) hm⟩
      | false =>
        have e3 : md.getD 0 0 ≠ 3 := fun e => by rw [e, beqT] at h3b; cases h3b
        rw [h3b] at h1
        simp only [cond_false] at h1
        cases h12 : (Nat.beq (md.getD 0 0) 1 || Nat.beq (md.getD 0 0) 2) with
        | true =>
          rw [h12] at h1
          have := run_ret (φ := φ) h1
          simp only [Prod.mk.injEq] at this
          obtain ⟨rfl, rfl, rfl⟩ := this
          rw [Bool.or_eq_true] at h12
          have e := h12.imp beq_eq beq_eq
          exact ⟨rfl, fun hm => absurd hm e3, fun _ => rfl, fun hm => absurd (.inr e) hm⟩
        | false =>
          rw [h12] at h1
          simp only [cond_false] at h1
          obtain ⟨row0, σ3, L3, h5, h6⟩ := run_bind h1
          obtain ⟨rfl, hr⟩ := peekRow_sound h h5
          obtain ⟨row1, σ4, L4, h7, h8⟩ := run_bind h6
          obtain ⟨rfl, hr1⟩ := resRow_sound h hD hr h7
          have := run_ret h8
          simp only [Prod.mk.injEq] at this
          obtain ⟨rfl, rfl, rfl⟩ := this
          refine ⟨rfl, fun hm => absurd hm e3, fun hm => ?_, fun _ => ⟨rfl, hr1⟩⟩
          have : (Nat.beq (md.getD 0 0) 1 || Nat.beq (md.getD 0 0) 2) = true := by
            rw [Bool.or_eq_true]
            exact hm.imp (fun e => by rw [e]; rfl) fun e => by rw [e]; rfl
          rw [h12] at this
          cases this
    obtain ⟨rfl, ha, hb, hc⟩ := hfirst
    obtain ⟨rfl, hl1, hh⟩ := restP_sound h hD lr xs md.tail ts (by simpa using hl) h3
    refine ⟨rfl, by simp [hl1], fun j x' hj => ?_⟩
    cases j with
    | zero =>
      simp only [List.getElem?_cons_zero, Option.some.injEq] at hj
      subst hj
      exact ⟨arg, rfl, fun e => ⟨t, rfl, ha e⟩, hb, hc⟩
    | succ j =>
      obtain ⟨arg', h5, h6, h7, h8⟩ := hh j x' (by simpa using hj)
      rw [tail_getD] at h6 h7 h8
      exact ⟨arg', by simpa using h5, fun e => by simpa using h6 e, h7, h8⟩
  | [], _, _ :: _, _, _, _, _, hl, _ => by simp at hl
  | _ :: _, _, [], _, _, _, _, hl, _ => by simp at hl
theorem run_call {f : FuncId} {args : List Arg} {k : List Row → List Row → Pr Unit} {σ : St} {L : Log} {y} (h : (Pr.call f args k).run φ σ L = some y) : ∃ rs outs, (∀ R z K, φ.run f args R z K = K rs outs) ∧ (k rs outs).run φ σ L = some y := by
  simp only [Pr.run] at h
  rcases φ.det f args with hd | ⟨rs, outs, hd⟩
  · rw [hd] at h; cases h
  · rw [hd] at h
    exact ⟨rs, outs, hd, h⟩
theorem call_core (hφ : SemsOk P φ) {dst f args at_ ty pos after guard} {K : Act → World → Prop} {Q : Exit → Act → World → Prop} {g : FuncId} {vs : Array Value} (hv : a.eval f = .func (.func g) #[] vs) {rows : List Arg} {γ : Nat → Gh} {rs outs : List Row}
    (hx : ArgsX w rows (args.map a.eval ++ vs) γ) (hok : ∀ R z K, φ.run g rows R z K = K rs outs)
    (hk : ∀ v δ w', GrewD w w' (Dof γ) → ResX w w' γ rows (args.map a.eval ++ vs) rs outs v δ → K (a.put dst v) w') :
    Oper.wp P ⟨dst, .call ⟨.value f, args, at_⟩, ty, pos, after, guard⟩ a w K Q := by
  obtain ⟨⟨fn, hfn, hbody, hname⟩, hcall⟩ := hφ _ _ _ _ hok
  have hc := hcall w _ γ hx
  unfold Oper.wp
  have hx' : (execOp a.eval ⟨dst, .call ⟨.value f, args, at_⟩, ty, pos, after, guard⟩).run P w = .ok (.enter g (args.map a.eval ++ vs)) w := by
    have hb : ¬ fn.body = none := fun e => by rw [e] at hbody; simp at hbody
    simp [execOp, resolve, hv, Deferred.ofValue, invoke, callFunc, hfn, hname, hb]
  rw [hx']
  refine hc.mono fun e w' ⟨v, δ, he, hgr, hres⟩ => ?_
  subst he
  exact hk v δ w' hgr hres
/-! ### the ghosts of a call -/
def argG (G : GG) (hdr : Nat → Gh) (i : Nat) : Gh := fun p => match hdr i p with
  | some y => some y
  | none => G (park (i + 1)) p
theorem argG_some {G : GG} {hdr : Nat → Gh} {i p y} (h : argG G hdr i p = some y) : hdr i p = some y ∨ G (park (i + 1)) p = some y := by
  unfold argG at h
  split at h
  · rename_i z hz
    exact .inl (hz.trans h)
  · exact .inr h
structure Hdr (σ : St) (G : GG) (hdr : Nat → Gh) : Prop where
  home : ∀ i p ad c, hdr i p = some (ad, c) → ∃ r q, notPark r ∧ G r q = some (ad, c) ∧ (∀ m n f, rowsAt (σ.get r).rows q ≠ some (.arr m n f)) ∧ (∀ t, r = box t → q = [] → (σ.get r).rows = [])
  inj : ∀ i p i' p' ad c ad' c', hdr i p = some (ad, c) → hdr i' p' = some (ad', c') → ad.block = ad'.block → i = i' ∧ p = p'
theorem argG_inj {E σ G hdr} (h : Rel E σ a w G) (hh : Hdr σ G hdr) : ∀ i p i' p' ad c ad' c', argG G hdr i p = some (ad, c) → argG G hdr i' p' = some (ad', c') → ad.block = ad'.block → i = i' ∧ p = p' := by
  intro i p i' p' ad c ad' c' h1 h2 hb
  rcases argG_some h1 with g1 | g1 <;> rcases argG_some h2 with g2 | g2
  · exact hh.inj _ _ _ _ _ _ _ _ g1 g2 hb
  · obtain ⟨r, q, hnp, hg, _⟩ := hh.home _ _ _ _ g1
    exact absurd ((h.inj _ _ _ _ _ _ _ _ hg g2 hb).1 ▸ hnp) (not_np_park _)
  · obtain ⟨r, q, hnp, hg, _⟩ := hh.home _ _ _ _ g2
    exact absurd ((h.inj _ _ _ _ _ _ _ _ hg g1 hb.symm).1 ▸ hnp) (not_np_park _)
  · obtain ⟨e1, e2⟩ := h.inj _ _ _ _ _ _ _ _ g1 g2 hb
    have := park_inj e1
    exact ⟨by omega, e2⟩
theorem argG_at {E σ G hdr} (h : Rel E σ a w G) (hh : Hdr σ G hdr) {i p ad c} (h1 : argG G hdr i p = some (ad, c)) : (E.w0.heap.size ≤ ad.block ∨ E.D ad.block) ∧ ad.block < w.heap.size := by
  rcases argG_some h1 with g1 | g1
  · obtain ⟨r, q, hnp, hg, _⟩ := hh.home _ _ _ _ g1
    exact h.rng _ _ _ _ hg
  · exact h.rng _ _ _ _ g1
theorem argG_clear {E σ G hdr} (h : Rel E σ a w G) (hh : Hdr σ G hdr) : Clear E σ G (Dof (argG G hdr)) where
  out := by
    rintro b ⟨i, p, ad, c, h1, rfl⟩
    exact (argG_at h hh h1).1
  live := by
    rintro r p m n f ad c hnp hat hg ⟨i, p', ad', c', h1, hb⟩
    rcases argG_some h1 with g1 | g1
    · obtain ⟨r', q', hnp', hg', hno, _⟩ := hh.home _ _ _ _ g1
      obtain ⟨rfl, rfl⟩ := h.inj _ _ _ _ _ _ _ _ hg' hg hb
      exact hno _ _ _ hat
    · exact absurd ((h.inj _ _ _ _ _ _ _ _ hg g1 hb.symm).1 ▸ hnp) (not_np_park _)
  boxes := by
    rintro t ad c hrows hg ⟨i, p', ad', c', h1, hb⟩
    rcases argG_some h1 with g1 | g1
    · obtain ⟨r', q', hnp', hg', _, hno⟩ := hh.home _ _ _ _ g1
      obtain ⟨rfl, rfl⟩ := h.inj _ _ _ _ _ _ _ _ hg' hg hb
      exact hrows (hno t rfl rfl)
    · exact absurd ((h.inj _ _ _ _ _ _ _ _ hg g1 hb.symm).1 ▸ np_box t) (not_np_park _)
/-- Behind the call: results in flight at park 0, what is lent at its park, less the headers. -/
def resG (G : GG) (hdr δ : Nat → Gh) (i0 : Nat) : GG := fun r => if r % 4 = 3 then (if r = park 0 then δ 0 else if r = park (i0 + 1) then (fun p => if (hdr i0 p).isSome then none else δ (i0 + 1) p) else noG) else G r
theorem resG_np {G hdr δ i0 r} (h : notPark r) : resG G hdr δ i0 r = G r := by unfold resG; rw [if_neg h]
theorem resG_0 {G hdr δ i0} : resG G hdr δ i0 (park 0) = δ 0 := by simp [resG, park]
theorem resG_i {G hdr δ i0} : resG G hdr δ i0 (park (i0 + 1)) = fun p => if (hdr i0 p).isSome then none else δ (i0 + 1) p := by
  have h1 : park (i0 + 1) % 4 = 3 := by unfold park; omega
  have h2 : park (i0 + 1) ≠ park 0 := fun e => by have := park_inj e; omega
  unfold resG
  rw [if_pos h1, if_neg h2, if_pos rfl]
theorem resG_some {G hdr δ i0 r p y} (h : resG G hdr δ i0 r p = some y) : (notPark r ∧ G r p = some y) ∨ (r = park 0 ∧ δ 0 p = some y) ∨ (r = park (i0 + 1) ∧ hdr i0 p = none ∧ δ (i0 + 1) p = some y) := by
  unfold resG at h
  split at h
  · split at h
    · exact .inr (.inl ⟨‹_›, h⟩)
    · split at h
      · simp only at h
        split at h
        · cases h
        · rename_i hn
          exact .inr (.inr ⟨‹_›, by simpa using hn, h⟩)
      · simp [noG] at h
  · exact .inl ⟨‹_›, h⟩
theorem Rel.called {E σ G hdr δ w'} {rows : List Arg} {vals : Array Value} {rs outs : List Row} {v : Value} (h : Rel E σ a w G) (hh : Hdr σ G hdr) (i0 : Nat) (hi0 : ∀ i p y, hdr i p = some y → i = i0)
    (hg : GrewD w w' (Dof (argG G hdr))) (hr : ResX w w' (argG G hdr) rows vals rs outs v δ) (hK : ∀ p ad c, hdr i0 p = some (ad, c) → δ (i0 + 1) p = some (ad, c)) : Rel E σ a w' (resG G hdr δ i0) := by
  refine h.step (argG_clear h hh) hg (fun r hr => resG_np hr) ?_ ?_
  · have cross : ∀ {r q ad c i p ad' c'}, notPark r → G r q = some (ad, c) → δ i p = some (ad', c') → ad.block = ad'.block → i = i0 + 1 ∧ (hdr i0 p).isSome := by
      intro r q ad c i p ad' c' hnp h1 h2 hb
      rcases (hr.rng _ _ _ _ h2).1 with h3 | ⟨j, p3, ad3, c3, h3, hb3⟩
      · have := (h.rng _ _ _ _ h1).2
        omega
      · rcases argG_some h3 with g | g
        · obtain ⟨r4, q4, _, hg4, _⟩ := hh.home _ _ _ _ g
          have ej := hi0 _ _ _ g
          subst ej
          obtain ⟨e1, e2⟩ := hr.inj _ _ _ _ _ _ _ _ h2 (hK _ _ _ g) hb3.symm
          subst e2
          exact ⟨e1, by rw [g]; rfl⟩
        · exact absurd ((h.inj _ _ _ _ _ _ _ _ h1 g (hb.trans hb3.symm)).1 ▸ hnp) (not_np_park _)
    intro r p r' p' ad c ad' c' h1 h2 hb
    rcases resG_some h1 with ⟨n1, g1⟩ | ⟨e1, g1⟩ | ⟨e1, m1, g1⟩ <;> rcases resG_some h2 with ⟨n2, g2⟩ | ⟨e2, g2⟩ | ⟨e2, m2, g2⟩
    · exact h.inj _ _ _ _ _ _ _ _ g1 g2 hb
    · have := (cross n1 g1 g2 hb).1; omega
    · have := (cross n1 g1 g2 hb).2; rw [m2] at this; cases this
    · have := (cross n2 g2 g1 hb.symm).1; omega
    · exact ⟨e1.trans e2.symm, (hr.inj _ _ _ _ _ _ _ _ g1 g2 hb).2⟩
    · have := (hr.inj _ _ _ _ _ _ _ _ g1 g2 hb).1; omega
    · have := (cross n2 g2 g1 hb.symm).2; rw [m1] at this; cases this
    · have := (hr.inj _ _ _ _ _ _ _ _ g1 g2 hb).1; omega
    · exact ⟨e1.trans e2.symm, (hr.inj _ _ _ _ _ _ _ _ g1 g2 hb).2⟩
  · intro r p ad c h1
    have hδ : ∀ {i p ad c}, δ i p = some (ad, c) → (E.w0.heap.size ≤ ad.block ∨ E.D ad.block) ∧ ad.block < w'.heap.size := fun h2 => by
      obtain ⟨h3, h4⟩ := hr.rng _ _ _ _ h2
      have hsz := h.size
      exact ⟨h3.elim (fun h5 => .inl (Nat.le_trans hsz h5)) fun hd => (argG_clear h hh).out _ hd, h4⟩
    rcases resG_some h1 with ⟨n1, g1⟩ | ⟨e1, g1⟩ | ⟨e1, m1, g1⟩
    · exact ⟨(h.rng _ _ _ _ g1).1, Nat.lt_of_lt_of_le (h.rng _ _ _ _ g1).2 hg.size⟩
    · exact hδ g1
    · exact hδ g1
end
end Go.Mach
