/- Calls are sound, where the callees' meanings are. Conditions: none (lemmas). -/
import Derived.Test.YtamalkcgebjphaaM8
namespace Go.Mach
def calleeEnv (w : World) : Env := ⟨w, fun _ => False, 0⟩
/-- A cell as it is handed to a callee. -/
def ArgC (w : World) (c : C) (v : Value) : Prop := RelC (calleeEnv w) (fun _ => noG) (fun _ => 0) w noG c v
def ArgRow (w : World) (row : Row) (v : Value) : Prop := RelRow (calleeEnv w) (fun _ => noG) (fun _ => 0) w (fun _ => noG) row v
def ArgsRel (w : World) (args : List Row) (vals : Array Value) : Prop := vals.size = args.length ∧ ∀ (i : Nat) row, args[i]? = some row → ∃ u, vals[i]? = some u ∧ ArgRow w row u
/-- What a callee hands back: memory of its own. -/
def ResRel (w w' : World) (rs : List Row) (v : Value) : Prop := ∃ γ : Gh, (∀ p ad c, γ p = some (ad, c) → w.heap.size ≤ ad.block ∧ ad.block < w'.heap.size) ∧
  (∀ p p' ad c ad' c', γ p = some (ad, c) → γ p' = some (ad', c') → ad.block = ad'.block → p = p') ∧ ∀ E G V, RelRows E G V w' γ rs v
/-- The meanings are true. -/
def Sound (P : Program) (f : FuncId) (args rs : List Row) : Prop := (∃ fn, P.funcs[f]? = some fn ∧ fn.body.isSome = true ∧ fn.name ≠ "runtime.NumGoroutine") ∧
  ∀ (w : World) (vals : Array Value), ArgsRel w args vals → Calls P f vals w fun e w' => ∃ v, e = .returned v ∧ Grew w w' ∧ ResRel w w' rs v
def SemsOk (P : Program) (φ : Sems) : Prop := ∀ f args, (φ f args).1 = true → Sound P f args (φ f args).2
section
variable {P : Program} {φ : Sems} {a : Act} {w : World}
theorem callee_N {b : Nat} (h : b < w.heap.size) : (calleeEnv w).N b := ⟨h, fun x => x⟩
theorem own_im {t : T} {g : Gh} {v : Value} (h : RelOwn w t g v) : RelIm w (calleeEnv w).N t v := by
  induction t generalizing g v with
  | int | bool | str | hole => exact h
  | arr m n f ih =>
    rcases h with ⟨_, rfl, rfl⟩ | ⟨b, off, cap, cs, e, _, rfl, hn, hw, _, hh⟩
    · exact ⟨_, _, rfl, Nat.le_refl _, fun h => by omega⟩
    · refine ⟨_, _, rfl, hn.1, fun _ => ⟨b, off, rfl, callee_N (Array.getElem?_eq_some_iff.1 hw).1, fun j hj k hk => ?_⟩⟩
      obtain ⟨u, hu, hr⟩ := hh j hj k hk
      exact ⟨u, by rw [cell_of_row' hw]; exact hu, ih j k hr⟩
theorem im_im {E σ G} (h : Rel E σ a w G) {t : T} {v : Value} (hr : RelIm E.w0 E.N t v) : RelIm w (calleeEnv w).N t v := by
  induction t generalizing v with
  | int | bool | str | hole => exact hr
  | arr m n f ih =>
    obtain ⟨A, cap, rfl, hn, hh⟩ := hr
    refine ⟨A, cap, rfl, hn, fun h0 => ?_⟩
    obtain ⟨b, off, hA, hN, hc⟩ := hh h0
    refine ⟨b, off, hA, callee_N (Nat.lt_of_lt_of_le hN.1 h.size), fun j hj k hk => ?_⟩
    obtain ⟨u, hu, hrr⟩ := hc j hj k hk
    exact ⟨u, h.cell0 hN hu, ih j k hrr⟩
theorem cell_im {E σ G g} (h : Rel E σ a w G) {c : C} {v : Value} (hr : RelC E G σ.V w g c v) : RelIm w (calleeEnv w).N (imT c) v := by
  cases c with
  | tr o t => cases o with
    | true => exact own_im hr
    | false => exact im_im h hr
  | _ => exact RelC.one hr
theorem resPt_sound {E σ G} (h : Rel E σ a w G) {x : Pt} {v : Value} (hr : RelPt E G σ.V x v) {x' L σ' L'} (hrun : (resPt x).run φ σ L = some (x', σ', L')) : σ' = σ ∧ RelPt (calleeEnv w) (fun _ => noG) (fun _ => 0) x' v := by
  cases x with
  | pim m g =>
    have := run_ret (φ := φ) hrun
    simp only [Prod.mk.injEq] at this
    obtain ⟨rfl, rfl, rfl⟩ := this
    obtain ⟨b, o, rfl, hh⟩ := hr
    refine ⟨rfl, b, o, rfl, fun i hi => ?_⟩
    obtain ⟨hN, u, hu, hrr⟩ := hh i hi
    exact ⟨callee_N (Nat.lt_of_lt_of_le hN.1 h.size), u, h.cell0 hN hu, im_im h hrr⟩
  | ptr r ver p m j k =>
    obtain ⟨b, o, rfl, ⟨hnp, hbox⟩, _, hval⟩ := hr
    simp only [resPt, runRd] at hrun
    obtain ⟨hb, hrun1⟩ := run_guard hrun
    obtain ⟨off, cap, hg, ho⟩ := hval (beq_eq hb)
    match p, hbox, hg, hrun1 with
    | [], hbox, hg, hrun1 =>
      obtain ⟨t', rfl | rfl⟩ := np_cases hnp
      · have := hbox rfl; unfold slot at this; omega
      simp only at hrun1
      split at hrun1
      · rename_i ag cs hrow
        obtain ⟨hb2, hrun2⟩ := run_guard hrun1
        have hm := beq_eq hb2
        have := run_ret hrun2
        simp only [Prod.mk.injEq] at this
        obtain ⟨rfl, rfl, rfl⟩ := this
        rcases h.box' t' with h0 | ⟨row', b', cs', e', hrows, hg', hw, hc⟩
        · rw [h0] at hrow; simp at hrow
        · rw [hrows] at hrow
          rw [hg] at hg'
          simp only [Option.some.injEq, Prod.mk.injEq, Addr.mk.injEq, and_true] at hg'
          obtain ⟨⟨rfl, rfl⟩, rfl⟩ := hg'
          cases j with
          | succ j => simp at hrow
          | zero =>
            simp only [List.getElem?_cons_zero, Option.some.injEq] at hrow
            subst hrow
            refine ⟨rfl, b, o, rfl, fun i hi => ⟨callee_N (Array.getElem?_eq_some_iff.1 hw).1, ?_⟩⟩
            have hlt : k + i < cs.length := by omega
            obtain ⟨u, hu, hrel⟩ := hc.2 _ _ (List.getElem?_eq_getElem (l := cs) hlt)
            refine ⟨u, by show w.cell? _ = _; rw [cell_of_row' hw, ← hu]; congr 1; omega, ?_⟩
            simp only [List.getElem?_eq_getElem hlt]
            exact cell_im h hrel
      · exact (run_fail hrun1).elim
    | x :: p', hbox, hg, hrun1 =>
      simp only at hrun1
      · obtain ⟨m', n', f, hat, _, hrun1a⟩ := run_arrAt hrun1
        replace hrun1a := run_guard hrun1a
        obtain ⟨hb2, hrun2⟩ := hrun1a
        simp only [Bool.and_eq_true, Nat.blt_eq] at hb2
        have hm := beq_eq hb2.1
        subst hm
        have := run_ret hrun2
        simp only [Prod.mk.injEq] at this
        obtain ⟨rfl, rfl, rfl⟩ := this
        obtain ⟨b', off', cap', cs, e, hg', _, hw, _, hh⟩ := h.nested hnp hat (by omega)
        rw [hg] at hg'
        simp only [Option.some.injEq, Prod.mk.injEq, Addr.mk.injEq, and_true] at hg'
        obtain ⟨⟨rfl, rfl⟩, rfl⟩ := hg'
        refine ⟨rfl, b, o, rfl, fun i hi => ⟨callee_N (Array.getElem?_eq_some_iff.1 hw).1, ?_⟩⟩
        obtain ⟨u, hu, hrel⟩ := hh j hb2.2 (k + i) (by omega)
        exact ⟨u, by show w.cell? _ = _; rw [cell_of_row' hw, ← hu]; congr 1; omega, own_im hrel⟩
theorem resPts_sound {E σ G} (h : Rel E σ a w G) : ∀ (l : List Pt) (vs : Array Value) (i0 : Nat), (∀ (i : Nat) x, l[i]? = some x → ∃ u, vs[i0 + i]? = some u ∧ RelPt E G σ.V x u) → ∀ {l' L σ' L'}, (mapP resPt l).run φ σ L = some (l', σ', L') →
    σ' = σ ∧ l'.length = l.length ∧ ∀ (i : Nat) x, l'[i]? = some x → ∃ u, vs[i0 + i]? = some u ∧ RelPt (calleeEnv w) (fun _ => noG) (fun _ => 0) x u
  | [], vs, i0, _, l', L, σ', L', hrun => by
    have := run_ret (φ := φ) hrun
    simp only [Prod.mk.injEq] at this
    obtain ⟨rfl, rfl, rfl⟩ := this
    exact ⟨rfl, rfl, fun i x hi => by simp at hi⟩
  | x :: l, vs, i0, hp, l', L, σ', L', hrun => by
    obtain ⟨x', σ1, L1, h1, h2⟩ := run_bind hrun
    obtain ⟨u, hu, hr⟩ := hp 0 x rfl
    obtain ⟨rfl, hr'⟩ := resPt_sound h hr h1
    obtain ⟨l1, σ2, L2, h3, h4⟩ := run_bind h2
    obtain ⟨rfl, hl, hh⟩ := resPts_sound h l vs (i0 + 1) (fun i y hi => by
      obtain ⟨u', hu', hr''⟩ := hp (i + 1) y (by simpa using hi)
      exact ⟨u', by rw [← hu']; congr 1; omega, hr''⟩) h3
    have := run_ret h4
    simp only [Prod.mk.injEq] at this
    obtain ⟨rfl, rfl, rfl⟩ := this
    refine ⟨rfl, by simp [hl], fun i y hi => ?_⟩
    cases i with
    | zero => simp at hi; subst hi; exact ⟨u, hu, hr'⟩
    | succ i =>
      obtain ⟨u', hu', hr''⟩ := hh i y (by simpa using hi)
      exact ⟨u', by rw [← hu']; congr 1; omega, hr''⟩
theorem resC_sound {E σ G} (h : Rel E σ a w G) {c : C} {v : Value} (hr : RelC E G σ.V w noG c v) {c' L σ' L'} (hrun : (resC c).run φ σ L = some (c', σ', L')) : σ' = σ ∧ ArgC w c' v := by
  cases c with
  | tr o t =>
    have := run_ret (φ := φ) hrun
    simp only [Prod.mk.injEq] at this
    obtain ⟨rfl, rfl, rfl⟩ := this
    exact ⟨rfl, cell_im h hr⟩
  | ref r ver p m s n =>
    simp only [resC, runRd] at hrun
    · obtain ⟨m0, n0, f0, hat, _, hrun1⟩ := run_arrAt hrun
      replace hrun1 := run_guard hrun1
      obtain ⟨hb, hrun2⟩ := hrun1
      simp only [Bool.and_eq_true] at hb
      obtain ⟨hb1, hb2, hb3⟩ := hb
      have e1 := beq_eq hb1
      have e2 := beq_eq hb2
      have e3 := Nat.le_of_ble_eq_true hb3
      subst e2
      have := run_ret hrun2
      simp only [Prod.mk.injEq] at this
      obtain ⟨rfl, rfl, rfl⟩ := this
      obtain ⟨A', c', hv', hc⟩ := ref_cells h hr e1 hat e3
      obtain ⟨A, cap, hv, hn, _⟩ := hr
      rw [hv] at hv'
      simp only [Value.slice.injEq, true_and] at hv'
      obtain ⟨rfl, rfl⟩ := hv'
      refine ⟨rfl, A, cap, hv, hn, fun h0 => ?_⟩
      obtain ⟨b, o, hA, hb0, hh⟩ := hc h0
      refine ⟨b, o, hA, callee_N hb0, fun j hj k hk => ?_⟩
      obtain ⟨u, hu, hrr⟩ := hh j hj k hk
      exact ⟨u, hu, by rw [cutT_in k hj]; exact own_im hrr⟩
  | pt x =>
    obtain ⟨x', σ1, L1, h1, h2⟩ := run_bind (φ := φ) (p := resPt x) hrun
    obtain ⟨rfl, hx⟩ := resPt_sound h hr h1
    have := run_ret h2
    simp only [Prod.mk.injEq] at this
    obtain ⟨rfl, rfl, rfl⟩ := this
    exact ⟨rfl, hx⟩
  | fn f caps =>
    obtain ⟨caps', σ1, L1, h1, h2⟩ := run_bind (φ := φ) (p := mapP resPt caps) hrun
    obtain ⟨vs, hv, hs, hh⟩ := hr
    obtain ⟨rfl, hl, hh'⟩ := resPts_sound h caps vs 0 (fun i x hi => by
      obtain ⟨u, hu, hr⟩ := hh i x hi
      exact ⟨u, by rw [Nat.zero_add]; exact hu, hr⟩) h1
    have := run_ret h2
    simp only [Prod.mk.injEq] at this
    obtain ⟨rfl, rfl, rfl⟩ := this
    exact ⟨rfl, vs, hv, by rw [hl]; exact hs, fun i x hi => by
      obtain ⟨u, hu, hr⟩ := hh' i x hi
      exact ⟨u, by rw [Nat.zero_add] at hu; exact hu, hr⟩⟩
  | dead => exact (run_fail (φ := φ) hrun).elim
theorem resRow_sound {E σ G} (h : Rel E σ a w G) {row : Row} {v : Value} (hr : RelRow E G σ.V w (fun _ => noG) row v) {row' L σ' L'} (hrun : (resRow row).run φ σ L = some (row', σ', L')) : σ' = σ ∧ ArgRow w row' v := by
  obtain ⟨cs, σ1, L1, h1, h2⟩ := run_bind hrun
  have := run_ret h2
  simp only [Prod.mk.injEq] at this
  obtain ⟨rfl, rfl, rfl⟩ := this
  have key : ∀ (l : List C) (vs : Array Value) (i0 : Nat) {l' L σ'' L'}, (∀ (i : Nat) x, l[i]? = some x → ∃ u, vs[i0 + i]? = some u ∧ RelC E G σ.V w noG x u) → (mapP resC l).run φ σ L = some (l', σ'', L') →
      σ'' = σ ∧ l'.length = l.length ∧ ∀ (i : Nat) x, l'[i]? = some x → ∃ u, vs[i0 + i]? = some u ∧ ArgC w x u := by
    intro l
    induction l with
    | nil =>
      intro vs i0 l' L σ'' L' _ hrun
      have := run_ret (φ := φ) hrun
      simp only [Prod.mk.injEq] at this
      obtain ⟨rfl, rfl, rfl⟩ := this
      exact ⟨rfl, rfl, fun i x hi => by simp at hi⟩
    | cons c l ih =>
      intro vs i0 l' L σ'' L' hp hrun
      obtain ⟨c', σ1, L1, h1, h2⟩ := run_bind hrun
      obtain ⟨u, hu, hr⟩ := hp 0 c rfl
      obtain ⟨rfl, hr'⟩ := resC_sound h hr h1
      obtain ⟨l1, σ2, L2, h3, h4⟩ := run_bind h2
      obtain ⟨rfl, hl, hh⟩ := ih vs (i0 + 1) (fun i y hi => by
        obtain ⟨u', hu', hr''⟩ := hp (i + 1) y (by simpa using hi)
        exact ⟨u', by rw [← hu']; congr 1; omega, hr''⟩) h3
      have := run_ret h4
      simp only [Prod.mk.injEq] at this
      obtain ⟨rfl, rfl, rfl⟩ := this
      refine ⟨rfl, by simp [hl], fun i y hi => ?_⟩
      cases i with
      | zero => simp at hi; subst hi; exact ⟨u, hu, hr'⟩
      | succ i =>
        obtain ⟨u', hu', hr''⟩ := hh i y (by simpa using hi)
        exact ⟨u', by rw [← hu']; congr 1; omega, hr''⟩
  obtain ⟨ag, cs0⟩ := row
  by_cases hne : cs0 = []
  · subst hne
    have := run_ret (φ := φ) h1
    simp only [Prod.mk.injEq] at this
    obtain ⟨rfl, rfl, rfl⟩ := this
    refine ⟨rfl, ?_⟩
    cases ag with
    | false => exact hr
    | true => obtain ⟨vs, e, hc⟩ := hr; exact ⟨vs, e, hc.1, fun k c hk => by simp at hk⟩
  · obtain ⟨vs, hc, back⟩ := hr.cs hne
    obtain ⟨rfl, hl, hh⟩ := key cs0 vs 0 (fun i x hi => by
      obtain ⟨u, hu, hr⟩ := hc.2 i x hi
      exact ⟨u, by rw [Nat.zero_add]; exact hu, hr⟩) h1
    exact ⟨rfl, back _ _ _ _ _ _ hl ⟨by rw [hl]; exact hc.1, fun k c hk => by
      obtain ⟨u, hu, hr⟩ := hh k c hk
      exact ⟨u, by rw [Nat.zero_add] at hu; exact hu, hr⟩⟩⟩
theorem args_sound {E σ G} (h : Rel E σ a w G) : ∀ (l : List Operand) {rows L σ' L'}, (mapP (fun x => (peekRow x).bind resRow) l).run φ σ L = some (rows, σ', L') →
    σ' = σ ∧ rows.length = l.length ∧ ∀ (i : Nat) row, rows[i]? = some row → ∃ x, l[i]? = some x ∧ ArgRow w row (a.eval x)
  | [], rows, L, σ', L', hrun => by
    have := run_ret (φ := φ) hrun
    simp only [Prod.mk.injEq] at this
    obtain ⟨rfl, rfl, rfl⟩ := this
    exact ⟨rfl, rfl, fun i row hi => by simp at hi⟩
  | x :: l, rows, L, σ', L', hrun => by
    obtain ⟨row, σ1, L1, h1, h2⟩ := run_bind hrun
    obtain ⟨row0, σ2, L2, h3, h4⟩ := run_bind h1
    obtain ⟨rfl, hr⟩ := peekRow_sound h h3
    obtain ⟨rfl, hr'⟩ := resRow_sound h hr h4
    obtain ⟨rows', σ3, L3, h5, h6⟩ := run_bind h2
    obtain ⟨rfl, hl, hh⟩ := args_sound h l h5
    have := run_ret h6
    simp only [Prod.mk.injEq] at this
    obtain ⟨rfl, rfl, rfl⟩ := this
    refine ⟨rfl, by simp [hl], fun i row' hi => ?_⟩
    cases i with
    | zero => simp at hi; subst hi; exact ⟨x, rfl, hr'⟩
    | succ i => simpa using hh i row' (by simpa using hi)
theorem run_call {P : Program} {φ : Sems} {f : FuncId} {args : List Row} {k : List Row → Pr Unit} {σ : St} {L : Log} {y} (h : (Pr.call f args k).run φ σ L = some y) : (φ f args).1 = true ∧ (k (φ f args).2).run φ σ L = some y := by
  simp only [Pr.run] at h
  cases hf : (φ f args).1 with
  | false => simp [hf] at h
  | true => simp only [hf, cond_true] at h; exact ⟨rfl, h⟩
theorem ok_call (hφ : SemsOk P φ) {dst f args at_ ty pos after guard} : OpOk P φ ⟨dst, .call ⟨.value f, args, at_⟩, ty, pos, after, guard⟩ (opP P ⟨dst, .call ⟨.value f, args, at_⟩, ty, pos, after, guard⟩) := by
  intro E σ a w L σ' L' ⟨G, hG, hp⟩ hrun K Q hK
  obtain ⟨cf, σ1, L1, h1, h2⟩ := run_bind (φ := φ) (p := peek1 f) hrun
  obtain ⟨rfl, hcf⟩ := peek1_sound hG h1
  obtain ⟨rows, σ2, L2, h3, h4⟩ := run_bind h2
  obtain ⟨rfl, hl, hrows⟩ := args_sound hG args.toList h3
  unfold callP at h4
  split at h4
  case h_2 => exact (run_fail h4).elim
  rename_i g caps
  obtain ⟨caps', σ3, L3, h5, h6⟩ := run_bind h4
  obtain ⟨vs, hv, hs, hh⟩ := hcf
  obtain ⟨rfl, hlc, hcaps⟩ := resPts_sound hG caps vs 0 (fun i x hi => by
    obtain ⟨u, hu, hr⟩ := hh i x hi
    exact ⟨u, by rw [Nat.zero_add]; exact hu, hr⟩) h5
  obtain ⟨hrs, h7⟩ := run_call (P := P) h6
  obtain ⟨⟨fn, hfn, hbody, hname⟩, hcall⟩ := hφ _ _ hrs
  have hargs : ArgsRel w (rows ++ caps'.map fun c => (false, [.pt c])) (args.map a.eval ++ vs) := by
    refine ⟨by simp [hl, hlc, hs], fun i row hi => ?_⟩
    by_cases hlt : i < rows.length
    · rw [List.getElem?_append_left hlt] at hi
      obtain ⟨x, hx, hr⟩ := hrows i row hi
      refine ⟨a.eval x, ?_, hr⟩
      have : i < (args.map a.eval).size := by simp; rw [← Array.length_toList, ← hl]; exact hlt
      rw [Array.getElem?_append_left this]
      simp at hx
      simp [hx]
    · rw [List.getElem?_append_right (by omega)] at hi
      simp only [List.getElem?_map] at hi
      obtain ⟨c, hc, rfl⟩ := Option.map_eq_some_iff.1 hi
      obtain ⟨u, hu, hr⟩ := hcaps _ c hc
      refine ⟨u, ?_, hr⟩
      have hsz : (args.map a.eval).size = rows.length := by simp [hl]
      rw [Array.getElem?_append_right (by omega), hsz]
      rw [Nat.zero_add] at hu
      exact hu
  have hc := hcall w _ hargs
  unfold Oper.wp
  have hx : (execOp a.eval ⟨dst, .call ⟨.value f, args, at_⟩, ty, pos, after, guard⟩).run P w = .ok (.enter g (args.map a.eval ++ vs)) w := by
    have hb : ¬ fn.body = none := fun e => by rw [e] at hbody; simp at hbody
    simp [execOp, resolve, hv, Deferred.ofValue, invoke, callFunc, hfn, hname, hb]
  rw [hx]
  refine hc.mono fun e w' ⟨v, he, hgr, γ, hγ1, hγ2, hγ3⟩ => ?_
  subst he
  have hlt : ∀ r p ad c, G r p = some (ad, c) → ad.block < w.heap.size := fun r p ad c hg => (hG.rng _ _ _ _ hg).2
  have hR := (hG.grew hgr).refly γ (fun p ad c hp' => by
    obtain ⟨h1, h2⟩ := hγ1 _ _ _ hp'
    refine .inr ⟨Nat.le_trans hG.size h1, h2, fun r p' ad' c' _ hg' e => ?_⟩
    have := hlt _ _ _ _ hg'
    omega) hγ2
  exact hK _ _ (put_sound hR 0 (by rw [flyG_0]; exact hγ3 _ _ _) h7)
end
end Go.Mach
