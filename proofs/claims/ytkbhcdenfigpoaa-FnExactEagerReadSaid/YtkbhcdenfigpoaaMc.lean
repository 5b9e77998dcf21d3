/- Code, whole functions and calls are sound. Conditions: none (lemmas). -/
import Derived.Test.YtkbhcdenfigpoaaMb
import Derived.LoopN
set_option linter.all false
namespace Go.Mach
def Ex.to : Ex → Exit
  | .normal => .normal
  | .exit i => .exit i
  | .ret => .ret
section
variable {P : Program} {φ : Sems}
theorem S.drop {E σ a w} (h : S E σ a w) (t : Nat) : S E (σ.set (slot t) ⟨(σ.get (slot t)).ver, []⟩) a w := by
  obtain ⟨G, hG, hp⟩ := h
  have hget : ∀ r, ((σ.set (slot t) ⟨(σ.get (slot t)).ver, []⟩).get r).ver = (σ.get r).ver := fun r => by
    rw [get_set]
    split
    · rename_i e; rw [← e.1]
    · rfl
  have hV : (fun r => ((σ.set (slot t) ⟨(σ.get (slot t)).ver, []⟩).get r).ver) = fun r => (σ.get r).ver := funext hget
  refine ⟨G, ⟨by rw [keys_set]; exact hG.nd, hG.inj, hG.rng, hG.os, hG.tape, hG.output, hG.size, hG.kept, fun u => ?_, fun u => ?_, fun u => ?_, hG.xbox, hG.defers, hG.tm, fun u hu => hG.here u (by rw [has_iff] at *; rwa [keys_set] at hu)⟩, hp⟩
  · rw [hV, get_set]
    split
    · trivial
    · exact hG.slots u
  · rw [hV, get_set, if_neg fun e => slot_ne_box t u e.1]
    exact hG.boxes u
  · rw [hV, get_set, if_neg fun e => slot_ne_ext t u e.1]
    exact hG.exts u
theorem cond_sound (hm : P.follows .mixedOrders = true) {kp : Nat → List Nat} {n : Nat} {E : Env} (hφ : SemsOk P φ) : ∀ (c : Code) (σ : St) (K : Ex → St → Prop) (Q : Exit → Act → World → Prop) (a : Act) (w : World),
    exec P φ kp E.nt False n c σ K → S E σ a w → (∀ e σ' a' w', K e σ' → S E σ' a' w' → Q e.to a' w') → c.wp P Q a w := by
  intro c
  induction c with
  | skip => intro σ K Q a w h hS hQ; exact wp_skip (hQ .normal _ _ _ h hS)
  | ret => intro σ K Q a w h hS hQ; exact wp_ret (hQ .ret _ _ _ h hS)
  | exit i => intro σ K Q a w h hS hQ; exact wp_exit (hQ (.exit i) _ _ _ h hS)
  | seq x y ihx ihy =>
    intro σ K Q a w h hS hQ
    refine wp_seq (ihx σ _ _ a w h hS fun e σ' a' w' hK hS' => ?_)
    cases e with
    | normal => exact ihy σ' K Q a' w' hK hS' hQ
    | exit i => exact hQ (.exit i) _ _ _ hK hS'
    | ret => exact hQ .ret _ _ _ hK hS'
  | block i x ih =>
    intro σ K Q a w h hS hQ
    refine wp_block (ih σ _ _ a w h hS fun e σ' a' w' hK hS' => ?_)
    cases e with
    | normal => exact hQ .normal _ _ _ hK hS'
    | exit j =>
      simp only [Ex.to, Exit.inBlock]
      cases hb : Nat.beq j i with
      | true =>
        simp only [hb, cond_true] at hK
        rw [if_pos (beq_eq hb)]
        exact hQ .normal _ _ _ hK hS'
      | false =>
        simp only [hb, cond_false] at hK
        rw [if_neg fun e => by rw [e, beqT] at hb; cases hb]
        exact hQ (.exit j) _ _ _ hK hS'
    | ret => exact hQ .ret _ _ _ hK hS'
  | cond c x y ihx ihy =>
    intro σ K Q a w h hS hQ
    cases c with
    | tmp t =>
      simp only [exec] at h
      split at h
      · rename_i o p hrows
        have hv : a.eval (.tmp t) = .bool p := by
          obtain ⟨G, hG, _⟩ := hS
          have := hG.slots t
          rw [hrows] at this
          exact relBool (show RelC E G _ w _ (.tr o (.bool p)) _ from this)
        cases p with
        | true => exact wp_cond_true hv (ihx _ K Q a w h (hS.drop t) hQ)
        | false => exact wp_cond_false hv (ihy _ K Q a w h (hS.drop t) hQ)
      · exact h.elim
    | const v =>
      cases v with
      | bool p =>
        cases p with
        | true => exact wp_cond_true rfl (ihx _ K Q a w h hS hQ)
        | false => exact wp_cond_false rfl (ihy _ K Q a w h hS hQ)
      | _ => exact h.elim
    | _ => exact h.elim
  | loop x ih =>
    intro σ K Q a w h hS hQ
    refine wp_loop_rounds n ?_
    have key : ∀ (m : Nat) (σ : St) (a : Act) (w : World), loopK False (exec P φ kp E.nt False n x) m σ K → S E σ a w → Code.rounds P x Q m a w := by
      intro m
      induction m with
      | zero => intro σ a w h _; exact h.elim
      | succ m ihm =>
        intro σ a w h hS
        refine ih σ _ _ a w h hS fun e σ' a' w' hK hS' => ?_
        cases e with
        | normal => exact ihm σ' a' w' hK hS'
        | exit i => exact hQ (.exit i) _ _ _ hK hS'
        | ret => exact hQ .ret _ _ _ hK hS'
    exact key n σ a w h hS
  | region id ops draw =>
    intro σ K Q a w h hS hQ
    exact region_sound hφ hm h hS fun σ' a' w' hK hS' => hQ .normal _ _ _ hK hS'
  | _ => intro σ K Q a w h hS hQ; exact h.elim
/-! ### computed and meant -/
section
variable {R R' : Type} (h : R → R') {z : R} {z' : R'} (hz : h z = z')
include hz
theorem opsK_nat (ops : Array Oper) : ∀ (l : List Oper) (i : Nat) (σ : St) (Ls : List (Nat × Log)) (K : St → List (Nat × Log) → R), h (opsK P φ z ops l i σ Ls K) = opsK P φ z' ops l i σ Ls (fun σ Ls => h (K σ Ls))
  | [], _, _, _, _ => rfl
  | o :: l, i, σ, Ls, K => by
    simp only [opsK, guardK_eq]
    rw [evalK_nat φ h z z' hz]
    congr 1
    funext _ σ L
    exact opsK_nat ops l (i + 1) σ _ K
theorem exec_nat (kp : Nat → List Nat) (nt n : Nat) : ∀ (c : Code) (σ : St) (K : Ex → St → R), h (exec P φ kp nt z n c σ K) = exec P φ kp nt z' n c σ (fun e σ => h (K e σ)) := by
  intro c
  induction c with
  | skip => intro σ K; rfl
  | ret => intro σ K; rfl
  | exit i => intro σ K; rfl
  | seq x y ihx ihy =>
    intro σ K
    simp only [exec]
    rw [ihx]
    congr 1
    funext e σ
    cases e with
    | normal => exact ihy σ K
    | exit i => rfl
    | ret => rfl
  | block i x ih =>
    intro σ K
    simp only [exec]
    rw [ih]
    congr 1
    funext e σ
    cases e with
    | normal => rfl
    | exit j => simp only; cases Nat.beq j i <;> rfl
    | ret => rfl
  | cond c x y ihx ihy =>
    intro σ K
    cases c with
    | tmp t =>
      simp only [exec]
      split
      · rename_i o p _
        cases p with
        | true => exact ihx _ K
        | false => exact ihy _ K
      · exact hz
    | const v =>
      cases v with
      | bool p =>
        cases p with
        | true => exact ihx _ K
        | false => exact ihy _ K
      | _ => exact hz
    | _ => exact hz
  | loop x ih =>
    intro σ K
    simp only [exec]
    have key : ∀ (m : Nat) (σ : St), h (loopK z (exec P φ kp nt z n x) m σ K) = loopK z' (exec P φ kp nt z' n x) m σ (fun e σ => h (K e σ)) := by
      intro m
      induction m with
      | zero => intro σ; exact hz
      | succ m ihm =>
        intro σ
        simp only [loopK]
        rw [ih]
        congr 1
        funext e σ
        cases e with
        | normal => exact ihm σ
        | exit i => rfl
        | ret => rfl
    exact key n σ
  | region id ops draw =>
    intro σ K
    simp only [exec, regionK]
    rw [opsK_nat h hz]
    congr 1
    funext σ Ls
    cases (!draw || (okEdges ops.toList 0 && okLogs (befL ops.toList []) Ls)) with
    | true => rfl
    | false => exact hz
  | _ => intro σ K; exact hz
end
/-! ### results -/
def resultSem (tmps : Array Value) : ResultVar → Sem Value
  | .tmp t => pure (tmps.getD t undef)
  | .cell a t => do loadVar t (← asAddr (tmps.getD a undef))
theorem finish {E a w} {σ : St} {G : GG} (h : Rel E σ a w G) {y : Nat} (hp : G (park y) = noG) {row rows : Row} {v : Value} {L σ' L'} (hrel : RelRow E G σ.V w (fun _ => noG) row v)
    (hrun : ((takeRowC row).bind fun row => (mapP finC row.2).bind fun cs => .ret (row.1, cs)).run φ σ L = some (rows, σ', L')) :
    ∃ G', Rel E σ' a w G' ∧ (∀ E' G'' V', RelRow E' G'' V' w (fun k q => G' (park y) (0 :: k :: q)) rows v) ∧ ∀ z, z ≠ y → G' (park z) = G (park z) := by
  obtain ⟨row1, σ1, L1, h1, h2⟩ := run_bind hrun
  obtain ⟨G1, hG1, hr1, _, _, hpk⟩ := takeRowC_sound h φ y hp hrel h1
  obtain ⟨cs, σ2, L2, h3, h4⟩ := run_bind h2
  obtain ⟨rfl, hl, hh⟩ := finCs_run h3
  have := run_ret h4
  simp only [Prod.mk.injEq] at this
  obtain ⟨rfl, rfl, _⟩ := this
  exact ⟨G1, hG1, finRow_rel (ag := row1.1) (l := row1.2) hr1 hl hh, hpk⟩
theorem result_sound {E a w} {σ : St} {G : GG} (h : Rel E σ a w G) {y : Nat} (hp : G (park y) = noG) {x : ResultVar} {rows : Row} {L σ' L'} (hrun : (resultP P x).run φ σ L = some (rows, σ', L')) :
    ∃ G' v, Rel E σ' a w G' ∧ (resultSem a.tmps x).run P w = .ok v w ∧ (∀ E' G'' V', RelRow E' G'' V' w (fun k q => G' (park y) (0 :: k :: q)) rows v) ∧ ∀ z, z ≠ y → G' (park z) = G (park z) := by
  cases x with
  | tmp t =>
    obtain ⟨row, σ1, L1, h1, h2⟩ := run_bind hrun
    obtain ⟨rfl, hr⟩ := peekRow_sound h h1
    obtain ⟨G', hG', hh, hpk⟩ := finish h hp hr h2
    exact ⟨G', _, hG', rfl, hh, hpk⟩
  | cell t ty =>
    obtain ⟨c, σ1, L1, h1, h2⟩ := run_bind hrun
    obtain ⟨rfl, hc⟩ := peek1_sound h h1
    split at h2
    · rename_i pt
      obtain ⟨row, σ2, L2, h3, h4⟩ := run_bind h2
      obtain ⟨rfl, b, o, u, hv, hl, hr⟩ := loadP_sound h hc h3
      obtain ⟨G', hG', hh, hpk⟩ := finish h hp hr h4
      refine ⟨G', u, hG', ?_, hh, hpk⟩
      have hv' : a.tmps.getD t undef = .pointer (some ⟨b, o, none⟩) := hv
      simp [resultSem, hv', asAddr, hl]
    · exact (run_fail h2).elim
theorem results_sound {E a w} : ∀ (l : List ResultVar) (i0 : Nat) (σ : St) (G : GG), Rel E σ a w G → (∀ y, i0 ≤ y → G (park y) = noG) → ∀ {rows L σ' L'}, (mapP (resultP P) l).run φ σ L = some (rows, σ', L') →
    ∃ G' vs, Rel E σ' a w G' ∧ rows.length = l.length ∧ vs.length = l.length ∧ (l.mapM (resultSem a.tmps)).run P w = .ok vs w ∧
      (∀ (i : Nat) row, rows[i]? = some row → ∃ u, vs[i]? = some u ∧ ∀ E' G'' V', RelRow E' G'' V' w (fun k q => G' (park (i0 + i)) (0 :: k :: q)) row u) ∧ ∀ y, y < i0 → G' (park y) = G (park y)
  | [], i0, σ, G, h, _, rows, L, σ', L', hrun => by
    have := run_ret (φ := φ) hrun
    simp only [Prod.mk.injEq] at this
    obtain ⟨rfl, rfl, _⟩ := this
    exact ⟨G, [], h, rfl, rfl, by simp, fun i row hi => by simp at hi, fun _ _ => rfl⟩
  | x :: l, i0, σ, G, h, hp, rows, L, σ', L', hrun => by
    obtain ⟨row, σ1, L1, h1, h2⟩ := run_bind (φ := φ) (p := resultP P x) hrun
    obtain ⟨G1, v, hG1, hv, hrel, hpk⟩ := result_sound h (hp i0 (Nat.le_refl _)) h1
    obtain ⟨rows', σ2, L2, h3, h4⟩ := run_bind h2
    obtain ⟨G2, vs, hG2, hl, hl2, hm, hh, hpk2⟩ := results_sound l (i0 + 1) σ1 G1 hG1 (fun y hy => by rw [hpk y (by omega)]; exact hp y (by omega)) h3
    have := run_ret h4
    simp only [Prod.mk.injEq] at this
    obtain ⟨rfl, rfl, _⟩ := this
    refine ⟨G2, v :: vs, hG2, by simp [hl], by simp [hl2], by simp [hv, hm], fun i row' hi => ?_, fun y hy => by rw [hpk2 y (by omega), hpk y (by omega)]⟩
    cases i with
    | zero =>
      simp at hi
      subst hi
      refine ⟨v, rfl, ?_⟩
      rw [Nat.add_zero, hpk2 i0 (by omega)]
      exact hrel
    | succ i =>
      obtain ⟨u, hu, hr⟩ := hh i row' (by simpa using hi)
      refine ⟨u, by simpa using hu, ?_⟩
      have e : i0 + (i + 1) = i0 + 1 + i := by omega
      rw [e]
      exact hr
theorem outsP_sound {E a w} {σ : St} {G : GG} (h : Rel E σ a w G) : ∀ (ts : List Nat) (i0 : Nat) {outs L σ' L'}, (outsP E.nt i0 ts).run φ σ L = some (outs, σ', L') → outs.length = ts.length ∧
    ∀ (j : Nat) t, ts[j]? = some t → ∃ o, outs[j]? = some o ∧ (t = 1 → allOwn o.2 ∧ ∀ E' G' V', RelRow E' G' V' w (fun k q => G (ext (i0 + j)) (0 :: k :: q)) o (E.x (i0 + j))) ∧
      (t = 2 → allOwn o.2 ∧ ∃ b vs e, E.xb (E.nt + (i0 + j)) = some (⟨b, 0, none⟩, 1) ∧ G (box (E.nt + (i0 + j))) [] = some (⟨b, 0, none⟩, 1) ∧ w.heap[b]? = some (.cells vs e (0, 0)) ∧ ∀ E' G' V', RelCs E' G' V' w (fun k q => G (box (E.nt + (i0 + j))) (0 :: k :: q)) o.2 vs)
  | [], i0, outs, L, σ', L', hrun => by
    have := run_ret (φ := φ) hrun
    simp only [Prod.mk.injEq] at this
    obtain ⟨rfl, _, _⟩ := this
    exact ⟨rfl, fun j t hj => by simp at hj⟩
  | t :: ts, i0, outs, L, σ', L', hrun => by
    obtain ⟨o, σ1, L1, h1, h2⟩ := run_bind (φ := φ) (p := outP E.nt i0 t) hrun
    obtain ⟨outs1, σ2, L2, h3, h4⟩ := run_bind h2
    have := run_ret h4
    simp only [Prod.mk.injEq] at this
    obtain ⟨rfl, rfl, rfl⟩ := this
    have hfirst : σ1 = σ ∧ (t = 1 → allOwn o.2 ∧ ∀ E' G' V', RelRow E' G' V' w (fun k q => G (ext i0) (0 :: k :: q)) o (E.x i0)) ∧
      (t = 2 → allOwn o.2 ∧ ∃ b vs e, E.xb (E.nt + i0) = some (⟨b, 0, none⟩, 1) ∧ G (box (E.nt + i0)) [] = some (⟨b, 0, none⟩, 1) ∧ w.heap[b]? = some (.cells vs e (0, 0)) ∧ ∀ E' G' V', RelCs E' G' V' w (fun k q => G (box (E.nt + i0)) (0 :: k :: q)) o.2 vs) := by
      unfold outP at h1
      cases e1 : Nat.beq t 1 with
      | true =>
        have e1' := beq_eq e1
        rw [e1] at h1
        simp only [cond_true, runRd] at h1
        split at h1
        · rename_i row hrow
          have hx := h.exts i0
          rw [hrow] at hx
          obtain ⟨rfl, _, hall, hrel⟩ := finRow_sound (E := E) (G := G) (V := fun r => (σ.get r).ver) (g := fun k q => G (ext i0) (0 :: k :: q)) hx h1
          exact ⟨rfl, fun _ => ⟨hall, hrel⟩, fun e => by omega⟩
        · exact (run_fail h1).elim
      | false =>
        have e1' : t ≠ 1 := fun e => by rw [e, beqT] at e1; cases e1
        rw [e1] at h1
        simp only [cond_false] at h1
        cases e2 : Nat.beq t 2 with
        | true =>
          rw [e2] at h1
          simp only [cond_true, runRd] at h1
          split at h1
          · rename_i row hrow
            rcases h.box' (E.nt + i0) with h0 | ⟨row', b, vs, e, hrows, hg, hw, hc⟩
            · rw [h0] at hrow; simp at hrow
            · rw [hrow] at hrows
              simp only [List.cons.injEq, and_true] at hrows
              subst hrows
              obtain ⟨cs, σ3, L3, h5, h6⟩ := run_bind h1
              obtain ⟨rfl, hl, hall⟩ := finCs_run h5
              have := run_ret h6
              simp only [Prod.mk.injEq] at this
              obtain ⟨rfl, rfl, rfl⟩ := this
              have hr : RelRow E G (fun r => (σ1.get r).ver) w (fun k q => G (box (E.nt + i0)) (0 :: k :: q)) (true, row.2) (.agg vs) := ⟨vs, rfl, hc⟩
              refine ⟨rfl, fun e => absurd e e1', fun _ => ⟨fun k c hk => ?_, b, vs, e, by rw [← h.xbox _ (by omega)]; exact hg, hg, hw, fun E' G' V' => ?_⟩⟩
              · obtain ⟨c0, t0, _, _, rfl⟩ := hall k c hk
                exact ⟨t0, rfl⟩
              · obtain ⟨vs', e', hc'⟩ := finRow_rel hr hl hall E' G' V'
                cases e'
                exact hc'
          · exact (run_fail h1).elim
        | false =>
          rw [e2] at h1
          have := run_ret (φ := φ) h1
          simp only [Prod.mk.injEq] at this
          obtain ⟨_, rfl, _⟩ := this
          exact ⟨rfl, fun e => absurd e e1', fun e => by rw [e, beqT] at e2; cases e2⟩
    obtain ⟨rfl, ha, hb⟩ := hfirst
    obtain ⟨hl, hh⟩ := outsP_sound h ts (i0 + 1) h3
    refine ⟨by simp [hl], fun j t' hj => ?_⟩
    cases j with
    | zero =>
      simp only [List.getElem?_cons_zero, Option.some.injEq] at hj
      subst hj
      exact ⟨o, rfl, ha, hb⟩
    | succ j =>
      obtain ⟨o', h5, h6, h7⟩ := hh j t' (by simpa using hj)
      have e : i0 + 1 + j = i0 + (j + 1) := by omega
      rw [e] at h6 h7
      exact ⟨o', by simpa using h5, h6, h7⟩
/-! ### a whole call -/
def ghOf (G : GG) : Gh
  | i :: q => G (park i) (0 :: q)
  | [] => none
theorem ghOf_some {G : GG} {p y} (h : ghOf G p = some y) : ∃ i q, p = i :: q ∧ G (park i) (0 :: q) = some y := by
  cases p with
  | nil => simp [ghOf] at h
  | cons i q => exact ⟨i, q, rfl, h⟩
def tagOf (args : List Arg) (i : Nat) : Nat := (args.getD i (0, (false, []))).1
/-- The ghosts behind a call: the results', those of what is lent. -/
def endG (G : GG) (nt : Nat) (args : List Arg) : Nat → Gh
  | 0 => ghOf G
  | i + 1 => if tagOf args i = 1 then G (ext i) else if tagOf args i = 2 then G (box (nt + i)) else noG
theorem tagOf_eq {args : List Arg} {i x} (h : args[i]? = some x) : tagOf args i = x.1 := by
  unfold tagOf
  rw [List.getD_eq_getElem?_getD, h]
  rfl
def envOf (w : World) (D : Nat → Prop) (nt : Nat) (vals : Array Value) (γ : Nat → Gh) : Env := ⟨w, D, nt, fun i => vals.getD i undef, fun t => γ (t - nt) []⟩
theorem post_sound {fn : Func} {w0 : World} {γ : Nat → Gh} {args : List Arg} {vals : Array Value} (hx : ArgsX w0 args vals γ) {σ : St} {a : Act} {w : World} {xb : Nat → Option (Addr × Nat)} (hxb : ∀ i x, args[i]? = some x → x.1 = 2 → xb (fn.ntmps + i) = γ i [])
    (hS : S ⟨w0, Dof γ, fn.ntmps, fun i => vals.getD i undef, xb⟩ σ a w) {rs outs : List Row} (h : resultsK P φ none fn (args.map (·.1)) σ (fun rows outs => some (rows, outs)) = some (rs, outs)) :
    a.defers = [] ∧ ∃ v, (results fn a.tmps).run P w = .ok v w ∧ ∃ v' δ, Ending.returned v = .returned v' ∧ GrewD w0 w (Dof γ) ∧ ResX w0 w γ args vals rs outs v' δ := by
  unfold resultsK at h
  have h' := cast (evalK_nat φ (fun o : Option (List Row × List Row) => o = some (rs, outs)) none False (by simp) _ σ [] fun (r : List Row × List Row) _ _ => some (r.1, r.2)) h
  obtain ⟨rows, σ', L', hrun, hK⟩ := (evalK_prop _ _ _ _ _).1 h'
  have hK := Option.some.inj hK
  obtain ⟨rows1, σ1, L1, h1, h2⟩ := run_bind hrun
  obtain ⟨outs1, σ2, L2, h3, h4⟩ := run_bind h2
  have := run_ret h4
  simp only [Prod.mk.injEq] at this
  obtain ⟨rfl, _, _⟩ := this
  simp only [Prod.mk.injEq] at hK
  obtain ⟨rfl, rfl⟩ := hK
  obtain ⟨G, hG, hp⟩ := hS
  obtain ⟨G', vs, hG', hl, hl2, hm, hh, _⟩ := results_sound fn.results.toList 0 σ G hG (fun y _ => hp y) h1
  obtain ⟨hlo, hout⟩ := outsP_sound hG' (args.map (·.1)) 0 h3
  have hres : ∀ E' G'' V', RelRows E' G'' V' w (ghOf G') rows1 (if h : vs.length = 1 then vs[0]'(by omega) else .tuple vs.toArray) := fun E' G'' V' => by
    match rows1, vs, hl, hl2, hh with
    | [], _, _, _, _ => trivial
    | [row], [v], _, _, hh =>
      obtain ⟨u, hu, hr⟩ := hh 0 row rfl
      simp at hu
      subst hu
      exact hr E' G'' V'
    | r :: r' :: rs, v :: v' :: vs, hl, hl2, hh =>
      refine ⟨(v :: v' :: vs).toArray, by simp, by simp at hl hl2 ⊢; omega, fun i row hi => ?_⟩
      obtain ⟨u, hu, hr⟩ := hh i row hi
      refine ⟨u, by simpa using hu, ?_⟩
      have := hr E' G'' V'
      rw [Nat.zero_add] at this
      exact this
    | [row], [], h1, h2, _ => simp at h1 h2; omega
    | [row], _ :: _ :: _, h1, h2, _ => simp at h1 h2; omega
    | _ :: _ :: _, [], h1, h2, _ => simp at h1 h2; omega
    | _ :: _ :: _, [_], h1, h2, _ => simp at h1 h2; omega
  have hend : ∀ {i p y}, endG G' fn.ntmps args i p = some y → (i = 0 ∧ ∃ j q, p = j :: q ∧ G' (park j) (0 :: q) = some y) ∨ ∃ j, i = j + 1 ∧ ((tagOf args j = 1 ∧ G' (ext j) p = some y) ∨ (tagOf args j = 2 ∧ G' (box (fn.ntmps + j)) p = some y)) := by
    intro i p y he
    cases i with
    | zero => exact .inl ⟨rfl, ghOf_some he⟩
    | succ i =>
      simp only [endG] at he
      split at he
      · exact .inr ⟨i, rfl, .inl ⟨‹_›, he⟩⟩
      · split at he
        · exact .inr ⟨i, rfl, .inr ⟨‹_›, he⟩⟩
        · simp [noG] at he
  refine ⟨hG.defers, _, ?_, _, endG G' fn.ntmps args, rfl, ⟨hG'.os, hG'.tape, hG'.output, hG'.size, fun b hb hd => hG'.kept b ⟨hb, hd⟩⟩, fun i p i' p' ad c ad' c' h1 h2 hb => ?_, fun i p ad c hg => ?_, hres, fun i x hi => ?_⟩
  · have hmm : (fn.results.mapM (resultSem a.tmps)).run P w = .ok vs.toArray w := by
      rw [Array.mapM_eq_mapM_toList, Sem.run_map, hm]
      rfl
    have he : results fn a.tmps = (fn.results.mapM (resultSem a.tmps) >>= fun vs => pure (if h : vs.size = 1 then vs[0] else .tuple vs)) := by
      unfold results
      congr 1
    rw [he, Sem.run_bind, hmm]
    simp only [Result.andThen_ok]
    by_cases h1 : vs.length = 1
    · simp [h1]
    · simp [h1]
  · have inj := hG'.inj
    rcases hend h1 with ⟨rfl, j, q, rfl, g1⟩ | ⟨j, rfl, ⟨t1, g1⟩ | ⟨t1, g1⟩⟩ <;> rcases hend h2 with ⟨rfl, j', q', rfl, g2⟩ | ⟨j', rfl, ⟨t2, g2⟩ | ⟨t2, g2⟩⟩ <;> obtain ⟨e1, e2⟩ := inj _ _ _ _ _ _ _ _ g1 g2 hb
    · simp only [List.cons.injEq, true_and] at e2
      rw [park_inj e1, e2]
      exact ⟨rfl, rfl⟩
    · exact absurd e1.symm (ext_ne_park _ _)
    · exact absurd e1.symm (box_ne_park _ _)
    · exact absurd e1 (ext_ne_park _ _)
    · exact ⟨by rw [ext_inj e1], e2⟩
    · exact absurd e1.symm (box_ne_ext _ _)
    · exact absurd e1 (box_ne_park _ _)
    · exact absurd e1 (box_ne_ext _ _)
    · have := box_inj e1
      exact ⟨by omega, e2⟩
  · have hr : ∀ {r q}, G' r q = some (ad, c) → (w0.heap.size ≤ ad.block ∨ Dof γ ad.block) ∧ ad.block < w.heap.size := fun hg => hG'.rng _ _ _ _ hg
    rcases hend hg with ⟨rfl, j, q, rfl, g1⟩ | ⟨j, rfl, ⟨t1, g1⟩ | ⟨t1, g1⟩⟩ <;> exact hr g1
  · obtain ⟨u, hu, _⟩ := hx.arg i x hi
    obtain ⟨o, ho, k1, k2⟩ := hout i x.1 (by rw [List.getElem?_map, hi]; rfl)
    have hv : vals.getD i undef = u := by rw [Array.getD_eq_getD_getElem?, hu]; rfl
    simp only [Nat.zero_add] at k1 k2
    refine ⟨o, u, ho, hu, ?_⟩
    unfold OutOk
    have htag := tagOf_eq hi
    split
    · rename_i e
      obtain ⟨g1, g2⟩ := k1 e
      refine ⟨g1, fun E' G'' V' => ?_⟩
      have := g2 E' G'' V'
      rw [hv] at this
      have e2 : endG G' fn.ntmps args (i + 1) = G' (ext i) := by simp only [endG, htag, e, if_true]
      rw [e2]
      exact this
    · split
      · rename_i e1 e
        obtain ⟨g1, b, vs', e', g2, g3, g4, g5⟩ := k2 e
        have e2 : endG G' fn.ntmps args (i + 1) = G' (box (fn.ntmps + i)) := by simp only [endG, htag, e]; simp
        refine ⟨g1, b, vs', e', ?_, by rw [e2]; exact g3, g4, fun E' G'' V' => by rw [e2]; exact g5 E' G'' V'⟩
        obtain ⟨u', hu', hok⟩ := hx.arg i x hi
        rw [hu] at hu'
        obtain rfl := Option.some.inj hu'
        unfold ArgOk at hok
        rw [if_neg (by omega), if_pos e] at hok
        obtain ⟨_, b1, vs1, e1', hp1, hg1, _⟩ := hok
        have := (hxb i x hi e).symm.trans g2
        rw [hg1] at this
        simp only [Option.some.injEq, Prod.mk.injEq, Addr.mk.injEq, and_true] at this
        rw [← this]
        exact hp1
      · trivial
end
end Go.Mach
