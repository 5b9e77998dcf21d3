/- Code, whole functions and calls are sound. Conditions: none (lemmas). -/
import Derived.Test.YtamalkcgebjphaaMb
import Derived.LoopN
namespace Go.Mach
def Ex.to : Ex → Exit
  | .normal => .normal
  | .exit i => .exit i
  | .ret => .ret
section
variable {P : Program} {φ : Sems}
theorem S.drop {E σ a w} (h : S E σ a w) (t : Nat) : S E (σ.set (slot t) ⟨(σ.get (slot t)).ver, []⟩) a w := by
  obtain ⟨G, hG, hp⟩ := h
  have hget : ∀ r, ((σ.set (slot t) ⟨(σ.get (slot t)).ver, []⟩).get r).ver = (σ.get r).ver := fun r => by
    rw [get_set]
    split
    · rename_i e; rw [← e.1]
    · rfl
  have hV : (fun r => ((σ.set (slot t) ⟨(σ.get (slot t)).ver, []⟩).get r).ver) = fun r => (σ.get r).ver := funext hget
  refine ⟨G, ⟨by rw [keys_set]; exact hG.nd, hG.inj, hG.rng, hG.os, hG.tape, hG.output, hG.size, hG.kept, fun u => ?_, fun u => ?_, hG.defers, hG.tm, fun u hu => hG.here u (by rw [has_iff] at *; rwa [keys_set] at hu)⟩, hp⟩
  · rw [hV, get_set]
    split
    · trivial
    · exact hG.slots u
  · rw [hV, get_set, if_neg fun e => slot_ne_box t u e.1]
    exact hG.boxes u
theorem cond_sound (hm : P.follows .mixedOrders = true) {keep : List Nat} {n : Nat} {E : Env} (hφ : SemsOk P φ) : ∀ (c : Code) (σ : St) (K : Ex → St → Prop) (Q : Exit → Act → World → Prop) (a : Act) (w : World),
    exec P φ keep E.nt False n c σ K → S E σ a w → (∀ e σ' a' w', K e σ' → S E σ' a' w' → Q e.to a' w') → c.wp P Q a w := by
  intro c
  induction c with
  | skip => intro σ K Q a w h hS hQ; exact wp_skip (hQ .normal _ _ _ h hS)
  | ret => intro σ K Q a w h hS hQ; exact wp_ret (hQ .ret _ _ _ h hS)
  | exit i => intro σ K Q a w h hS hQ; exact wp_exit (hQ (.exit i) _ _ _ h hS)
  | seq x y ihx ihy =>
    intro σ K Q a w h hS hQ
    refine wp_seq (ihx σ _ _ a w h hS fun e σ' a' w' hK hS' => ?_)
    cases e with
    | normal => exact ihy σ' K Q a' w' hK hS' hQ
    | exit i => exact hQ (.exit i) _ _ _ hK hS'
    | ret => exact hQ .ret _ _ _ hK hS'
  | block i x ih =>
    intro σ K Q a w h hS hQ
    refine wp_block (ih σ _ _ a w h hS fun e σ' a' w' hK hS' => ?_)
    cases e with
    | normal => exact hQ .normal _ _ _ hK hS'
    | exit j =>
      simp only [Ex.to, Exit.inBlock]
      cases hb : Nat.beq j i with
      | true =>
        simp only [hb, cond_true] at hK
        rw [if_pos (beq_eq hb)]
        exact hQ .normal _ _ _ hK hS'
      | false =>
        simp only [hb, cond_false] at hK
        rw [if_neg fun e => by rw [e, beqT] at hb; cases hb]
        exact hQ (.exit j) _ _ _ hK hS'
    | ret => exact hQ .ret _ _ _ hK hS'
  | cond c x y ihx ihy =>
    intro σ K Q a w h hS hQ
    cases c with
    | tmp t =>
      simp only [exec] at h
      split at h
      · rename_i o p hrows
        have hv : a.eval (.tmp t) = .bool p := by
          obtain ⟨G, hG, _⟩ := hS
          have := hG.slots t
          rw [hrows] at this
          exact relBool (show RelC E G _ w _ (.tr o (.bool p)) _ from this)
        cases p with
        | true => exact wp_cond_true hv (ihx _ K Q a w h (hS.drop t) hQ)
        | false => exact wp_cond_false hv (ihy _ K Q a w h (hS.drop t) hQ)
      · exact h.elim
    | const v =>
      cases v with
      | bool p =>
        cases p with
        | true => exact wp_cond_true rfl (ihx _ K Q a w h hS hQ)
        | false => exact wp_cond_false rfl (ihy _ K Q a w h hS hQ)
      | _ => exact h.elim
    | _ => exact h.elim
  | loop x ih =>
    intro σ K Q a w h hS hQ
    refine wp_loop_rounds n ?_
    have key : ∀ (m : Nat) (σ : St) (a : Act) (w : World), loopK False (exec P φ keep E.nt False n x) m σ K → S E σ a w → Code.rounds P x Q m a w := by
      intro m
      induction m with
      | zero => intro σ a w h _; exact h.elim
      | succ m ihm =>
        intro σ a w h hS
        refine ih σ _ _ a w h hS fun e σ' a' w' hK hS' => ?_
        cases e with
        | normal => exact ihm σ' a' w' hK hS'
        | exit i => exact hQ (.exit i) _ _ _ hK hS'
        | ret => exact hQ .ret _ _ _ hK hS'
    exact key n σ a w h hS
  | region id ops draw =>
    intro σ K Q a w h hS hQ
    exact region_sound hφ hm h hS fun σ' a' w' hK hS' => hQ .normal _ _ _ hK hS'
  | _ => intro σ K Q a w h hS hQ; exact h.elim
/-! ### computed and meant -/
section
variable {R R' : Type} (h : R → R') {z : R} {z' : R'} (hz : h z = z')
include hz
theorem opsK_nat (ops : Array Oper) : ∀ (l : List Oper) (i : Nat) (σ : St) (Ls : List (Nat × Log)) (K : St → List (Nat × Log) → R), h (opsK P φ z ops l i σ Ls K) = opsK P φ z' ops l i σ Ls (fun σ Ls => h (K σ Ls))
  | [], _, _, _, _ => rfl
  | o :: l, i, σ, Ls, K => by
    simp only [opsK, guardK_eq]
    rw [evalK_nat φ h z z' hz]
    congr 1
    funext _ σ L
    exact opsK_nat ops l (i + 1) σ _ K
theorem exec_nat (keep : List Nat) (nt n : Nat) : ∀ (c : Code) (σ : St) (K : Ex → St → R), h (exec P φ keep nt z n c σ K) = exec P φ keep nt z' n c σ (fun e σ => h (K e σ)) := by
  intro c
  induction c with
  | skip => intro σ K; rfl
  | ret => intro σ K; rfl
  | exit i => intro σ K; rfl
  | seq x y ihx ihy =>
    intro σ K
    simp only [exec]
    rw [ihx]
    congr 1
    funext e σ
    cases e with
    | normal => exact ihy σ K
    | exit i => rfl
    | ret => rfl
  | block i x ih =>
    intro σ K
    simp only [exec]
    rw [ih]
    congr 1
    funext e σ
    cases e with
    | normal => rfl
    | exit j => simp only; cases Nat.beq j i <;> rfl
    | ret => rfl
  | cond c x y ihx ihy =>
    intro σ K
    cases c with
    | tmp t =>
      simp only [exec]
      split
      · rename_i o p _
        cases p with
        | true => exact ihx _ K
        | false => exact ihy _ K
      · exact hz
    | const v =>
      cases v with
      | bool p =>
        cases p with
        | true => exact ihx _ K
        | false => exact ihy _ K
      | _ => exact hz
    | _ => exact hz
  | loop x ih =>
    intro σ K
    simp only [exec]
    have key : ∀ (m : Nat) (σ : St), h (loopK z (exec P φ keep nt z n x) m σ K) = loopK z' (exec P φ keep nt z' n x) m σ (fun e σ => h (K e σ)) := by
      intro m
      induction m with
      | zero => intro σ; exact hz
      | succ m ihm =>
        intro σ
        simp only [loopK]
        rw [ih]
        congr 1
        funext e σ
        cases e with
        | normal => exact ihm σ
        | exit i => rfl
        | ret => rfl
    exact key n σ
  | region id ops draw =>
    intro σ K
    simp only [exec, regionK]
    rw [opsK_nat h hz]
    congr 1
    funext σ Ls
    cases (!draw || (okEdges ops.toList 0 && okLogs (befL ops.toList []) Ls)) with
    | true => rfl
    | false => exact hz
  | _ => intro σ K; exact hz
end
/-! ### results -/
theorem finC_run {c c' : C} {σ σ' : St} {L L' : Log} (h : (finC c).run φ σ L = some (c', σ', L')) : σ' = σ ∧ ∃ t, ownT c = some t ∧ c' = .tr true t := by
  unfold finC at h
  split at h
  · rename_i t ht
    have := run_ret h
    simp only [Prod.mk.injEq] at this
    obtain ⟨rfl, rfl, _⟩ := this
    exact ⟨rfl, t, ht, rfl⟩
  · exact (run_fail h).elim
theorem finCs_run : ∀ {l l' : List C} {σ σ' : St} {L L' : Log}, (mapP finC l).run φ σ L = some (l', σ', L') → σ' = σ ∧ l'.length = l.length ∧ ∀ (k : Nat) c', l'[k]? = some c' → ∃ c t, l[k]? = some c ∧ ownT c = some t ∧ c' = .tr true t
  | [], l', σ, σ', L, L', h => by
    have := run_ret (φ := φ) h
    simp only [Prod.mk.injEq] at this
    obtain ⟨rfl, rfl, _⟩ := this
    exact ⟨rfl, rfl, fun k c hk => by simp at hk⟩
  | c :: l, l', σ, σ', L, L', h => by
    obtain ⟨c1, σ1, L1, h1, h2⟩ := run_bind (φ := φ) (p := finC c) h
    obtain ⟨rfl, t, ht, rfl⟩ := finC_run h1
    obtain ⟨l1, σ2, L2, h3, h4⟩ := run_bind h2
    obtain ⟨rfl, hl, hh⟩ := finCs_run h3
    have := run_ret h4
    simp only [Prod.mk.injEq] at this
    obtain ⟨rfl, rfl, _⟩ := this
    refine ⟨rfl, by simp [hl], fun k c' hk => ?_⟩
    cases k with
    | zero => simp at hk; subst hk; exact ⟨c, t, rfl, ht, rfl⟩
    | succ k => simpa using hh k c' (by simpa using hk)
theorem finRow_rel {E G V w g ag l l' v} (hr : RelRow E G V w g (ag, l) v) (hl : l'.length = l.length) (hh : ∀ (k : Nat) c', l'[k]? = some c' → ∃ c t, l[k]? = some c ∧ ownT c = some t ∧ c' = C.tr true t) :
    ∀ E' G' V', RelRow E' G' V' w g (ag, l') v := by
  intro E' G' V'
  by_cases hne : l = []
  · subst hne
    have : l' = [] := List.eq_nil_of_length_eq_zero (by simpa using hl)
    subst this
    cases ag with
    | false => exact hr
    | true => obtain ⟨vs, e, hc⟩ := hr; exact ⟨vs, e, hc.1, fun k c hk => by simp at hk⟩
  · obtain ⟨vs, hc, back⟩ := hr.cs hne
    refine back _ _ _ _ _ _ hl ⟨by rw [hl]; exact hc.1, fun k c' hk => ?_⟩
    obtain ⟨c, t, h1, h2, rfl⟩ := hh k c' hk
    obtain ⟨u, hu, hrel⟩ := hc.2 k c h1
    exact ⟨u, hu, ownT_rel hrel h2⟩
def resultSem (tmps : Array Value) : ResultVar → Sem Value
  | .tmp t => pure (tmps.getD t undef)
  | .cell a t => do loadVar t (← asAddr (tmps.getD a undef))
theorem finish {E a w} {σ : St} {G : GG} (h : Rel E σ a w G) {y : Nat} (hp : G (park y) = noG) {row rows : Row} {v : Value} {L σ' L'} (hrel : RelRow E G σ.V w (fun _ => noG) row v)
    (hrun : ((takeRowC row).bind fun row => (mapP finC row.2).bind fun cs => .ret (row.1, cs)).run φ σ L = some (rows, σ', L')) :
    ∃ G', Rel E σ' a w G' ∧ (∀ E' G'' V', RelRow E' G'' V' w (fun k q => G' (park y) (0 :: k :: q)) rows v) ∧ ∀ z, z ≠ y → G' (park z) = G (park z) := by
  obtain ⟨row1, σ1, L1, h1, h2⟩ := run_bind hrun
  obtain ⟨G1, hG1, hr1, _, _, hpk⟩ := takeRowC_sound h φ y hp hrel h1
  obtain ⟨cs, σ2, L2, h3, h4⟩ := run_bind h2
  obtain ⟨rfl, hl, hh⟩ := finCs_run h3
  have := run_ret h4
  simp only [Prod.mk.injEq] at this
  obtain ⟨rfl, rfl, _⟩ := this
  exact ⟨G1, hG1, finRow_rel (ag := row1.1) (l := row1.2) hr1 hl hh, hpk⟩
theorem result_sound {E a w} {σ : St} {G : GG} (h : Rel E σ a w G) {y : Nat} (hp : G (park y) = noG) {x : ResultVar} {rows : Row} {L σ' L'} (hrun : (resultP P x).run φ σ L = some (rows, σ', L')) :
    ∃ G' v, Rel E σ' a w G' ∧ (resultSem a.tmps x).run P w = .ok v w ∧ (∀ E' G'' V', RelRow E' G'' V' w (fun k q => G' (park y) (0 :: k :: q)) rows v) ∧ ∀ z, z ≠ y → G' (park z) = G (park z) := by
  cases x with
  | tmp t =>
    obtain ⟨row, σ1, L1, h1, h2⟩ := run_bind hrun
    obtain ⟨rfl, hr⟩ := peekRow_sound h h1
    obtain ⟨G', hG', hh, hpk⟩ := finish h hp hr h2
    exact ⟨G', _, hG', rfl, hh, hpk⟩
  | cell t ty =>
    obtain ⟨c, σ1, L1, h1, h2⟩ := run_bind hrun
    obtain ⟨rfl, hc⟩ := peek1_sound h h1
    split at h2
    · rename_i pt
      obtain ⟨row, σ2, L2, h3, h4⟩ := run_bind h2
      obtain ⟨rfl, b, o, u, hv, hl, hr⟩ := loadP_sound h hc h3
      obtain ⟨G', hG', hh, hpk⟩ := finish h hp hr h4
      refine ⟨G', u, hG', ?_, hh, hpk⟩
      have hv' : a.tmps.getD t undef = .pointer (some ⟨b, o, none⟩) := hv
      simp [resultSem, hv', asAddr, hl]
    · exact (run_fail h2).elim
theorem results_sound {E a w} : ∀ (l : List ResultVar) (i0 : Nat) (σ : St) (G : GG), Rel E σ a w G → (∀ y, i0 ≤ y → G (park y) = noG) → ∀ {rows L σ' L'}, (mapP (resultP P) l).run φ σ L = some (rows, σ', L') →
    ∃ G' vs, Rel E σ' a w G' ∧ rows.length = l.length ∧ vs.length = l.length ∧ (l.mapM (resultSem a.tmps)).run P w = .ok vs w ∧
      (∀ (i : Nat) row, rows[i]? = some row → ∃ u, vs[i]? = some u ∧ ∀ E' G'' V', RelRow E' G'' V' w (fun k q => G' (park (i0 + i)) (0 :: k :: q)) row u) ∧ ∀ y, y < i0 → G' (park y) = G (park y)
  | [], i0, σ, G, h, _, rows, L, σ', L', hrun => by
    have := run_ret (φ := φ) hrun
    simp only [Prod.mk.injEq] at this
    obtain ⟨rfl, rfl, _⟩ := this
    exact ⟨G, [], h, rfl, rfl, by simp, fun i row hi => by simp at hi, fun _ _ => rfl⟩
  | x :: l, i0, σ, G, h, hp, rows, L, σ', L', hrun => by
    obtain ⟨row, σ1, L1, h1, h2⟩ := run_bind (φ := φ) (p := resultP P x) hrun
    obtain ⟨G1, v, hG1, hv, hrel, hpk⟩ := result_sound h (hp i0 (Nat.le_refl _)) h1
    obtain ⟨rows', σ2, L2, h3, h4⟩ := run_bind h2
    obtain ⟨G2, vs, hG2, hl, hl2, hm, hh, hpk2⟩ := results_sound l (i0 + 1) σ1 G1 hG1 (fun y hy => by rw [hpk y (by omega)]; exact hp y (by omega)) h3
    have := run_ret h4
    simp only [Prod.mk.injEq] at this
    obtain ⟨rfl, rfl, _⟩ := this
    refine ⟨G2, v :: vs, hG2, by simp [hl], by simp [hl2], by simp [hv, hm], fun i row' hi => ?_, fun y hy => by rw [hpk2 y (by omega), hpk y (by omega)]⟩
    cases i with
    | zero =>
      simp at hi
      subst hi
      refine ⟨v, rfl, ?_⟩
      rw [Nat.add_zero, hpk2 i0 (by omega)]
      exact hrel
    | succ i =>
      obtain ⟨u, hu, hr⟩ := hh i row' (by simpa using hi)
      refine ⟨u, by simpa using hu, ?_⟩
      have e : i0 + (i + 1) = i0 + 1 + i := by omega
      rw [e]
      exact hr
/-! ### a whole call -/
def ghOf (G : GG) : Gh
  | i :: q => G (park i) (0 :: q)
  | [] => none
theorem ghOf_some {G : GG} {p y} (h : ghOf G p = some y) : ∃ i q, p = i :: q ∧ G (park i) (0 :: q) = some y := by
  cases p with
  | nil => simp [ghOf] at h
  | cons i q => exact ⟨i, q, rfl, h⟩
theorem post_sound {fn : Func} {w0 : World} {D : Nat → Prop} (hD : ∀ b, ¬ D b) {σ : St} {a : Act} {w : World} (hS : S ⟨w0, D, fn.ntmps⟩ σ a w) {rs : List Row} (h : resultsK P φ none fn σ some = some rs) :
    a.defers = [] ∧ ∃ v, (results fn a.tmps).run P w = .ok v w ∧ ∃ v', Ending.returned v = .returned v' ∧ Grew w0 w ∧ ResRel w0 w rs v' := by
  unfold resultsK at h
  have h' := cast (evalK_nat φ (fun o : Option (List Row) => o = some rs) none False (by simp) (mapP (resultP P) fn.results.toList) σ [] fun rows _ _ => some rows) h
  obtain ⟨rows, σ', L', hrun, hK⟩ := (evalK_prop _ _ _ _ _).1 h'
  have hK := Option.some.inj hK
  subst hK
  obtain ⟨G, hG, hp⟩ := hS
  obtain ⟨G', vs, hG', hl, hl2, hm, hh, _⟩ := results_sound fn.results.toList 0 σ G hG (fun y _ => hp y) hrun
  refine ⟨hG.defers, (if h : vs.length = 1 then vs[0]'(by omega) else .tuple vs.toArray), ?_, _, rfl, ⟨hG'.os, hG'.tape, hG'.output, hG'.size, fun b hb => hG'.kept b ⟨hb, hD b⟩⟩, ghOf G', fun p ad c hg => ?_, fun p p' ad c ad' c' h1 h2 hb => ?_, fun E' G'' V' => ?_⟩
  · have hmm : (fn.results.mapM (resultSem a.tmps)).run P w = .ok vs.toArray w := by
      rw [Array.mapM_eq_mapM_toList, Sem.run_map, hm]
      rfl
    have he : results fn a.tmps = (fn.results.mapM (resultSem a.tmps) >>= fun vs => pure (if h : vs.size = 1 then vs[0] else .tuple vs)) := by
      unfold results
      congr 1
    rw [he, Sem.run_bind, hmm]
    simp only [Result.andThen_ok]
    by_cases h1 : vs.length = 1
    · simp [h1]
    · simp [h1]
  · obtain ⟨i, q, rfl, hg⟩ := ghOf_some hg
    obtain ⟨h1, h2⟩ := hG'.rng _ _ _ _ hg
    exact ⟨h1.elim id fun x => absurd x (hD _), h2⟩
  · obtain ⟨i, q, rfl, g1⟩ := ghOf_some h1
    obtain ⟨i', q', rfl, g2⟩ := ghOf_some h2
    obtain ⟨e1, e2⟩ := hG'.inj _ _ _ _ _ _ _ _ g1 g2 hb
    simp only [List.cons.injEq, true_and] at e2
    rw [park_inj e1, e2]
  · match rows, vs, hl, hl2, hh with
    | [], _, _, _, _ => trivial
    | [row], [v], _, _, hh =>
      obtain ⟨u, hu, hr⟩ := hh 0 row rfl
      simp at hu
      subst hu
      exact hr E' G'' V'
    | r :: r' :: rs, v :: v' :: vs, hl, hl2, hh =>
      refine ⟨(v :: v' :: vs).toArray, by simp, by simp at hl hl2 ⊢; omega, fun i row hi => ?_⟩
      obtain ⟨u, hu, hr⟩ := hh i row hi
      refine ⟨u, by simpa using hu, ?_⟩
      have := hr E' G'' V'
      rw [Nat.zero_add] at this
      exact this
    | [row], [], h1, h2, _ => simp at h1 h2; omega
    | [row], _ :: _ :: _, h1, h2, _ => simp at h1 h2; omega
    | _ :: _ :: _, [], h1, h2, _ => simp at h1 h2; omega
    | _ :: _ :: _, [_], h1, h2, _ => simp at h1 h2; omega
/-! ### how a call begins -/
theorem memN_iff (r : Nat) : ∀ l, memN r l = true ↔ r ∈ l
  | [] => by simp [memN]
  | x :: l => by
    by_cases e : x = r
    · subst e; simp [memN, beqT]
    · have e' : ¬ r = x := fun h => e h.symm
      simp [memN, beqF e, e', memN_iff r l]
theorem insN_mem {t x : Nat} {l : List Nat} : x ∈ insN t l ↔ x = t ∨ x ∈ l := by
  have hm : ∀ l, memN t l = true ↔ t ∈ l := memN_iff t
  unfold insN
  cases h : memN t l with
  | true => exact ⟨.inr, fun h' => h'.elim (fun e => e ▸ (hm l).1 h) id⟩
  | false => simp [or_comm]
theorem insN_nodup {t : Nat} {l : List Nat} (h : l.Nodup) : (insN t l).Nodup := by
  have hm : ∀ l, memN t l = true ↔ t ∈ l := memN_iff t
  unfold insN
  cases hh : memN t l with
  | true => exact h
  | false =>
    simp only [cond_false]
    refine List.nodup_append.2 ⟨h, by simp, fun x hx y hy => ?_⟩
    simp only [List.mem_singleton] at hy
    subst hy
    intro e
    subst e
    rw [(hm l).2 hx] at hh
    cases hh
theorem dedupN_spec : ∀ (l acc : List Nat), acc.Nodup → (dedupN l acc).Nodup ∧ ∀ x, x ∈ dedupN l acc → x ∈ acc ∨ x ∈ l
  | [], acc, h => ⟨h, fun x hx => .inl hx⟩
  | y :: l, acc, h => by
    obtain ⟨h1, h2⟩ := dedupN_spec l (insN y acc) (insN_nodup h)
    refine ⟨h1, fun x hx => ?_⟩
    rcases h2 x hx with h3 | h3
    · rcases insN_mem.1 h3 with e | h3
      · exact .inr (by simp [e])
      · exact .inl h3
    · exact .inr (by simp [h3])
theorem get_new (l : List Nat) (r : Nat) : St.get (l.map fun r => (r, (⟨0, []⟩ : Ct))) r = ⟨0, []⟩ := by
  induction l with
  | nil => rfl
  | cons x l ih =>
    simp only [List.map_cons, St.get, ih]
    cases Nat.beq x r <;> rfl
theorem initArgs_get : ∀ (args : List Row) (i : Nat) (σ : St) (r : Nat), (initArgs i args σ).get r = σ.get r ∨ ∃ j row, args[j]? = some row ∧ r = slot (i + j) ∧ (initArgs i args σ).get r = ⟨0, [row]⟩
  | [], i, σ, r => .inl rfl
  | x :: args, i, σ, r => by
    rcases initArgs_get args (i + 1) (σ.set (slot i) ⟨0, [x]⟩) r with h | ⟨j, row, h1, h2, h3⟩
    · rw [get_set] at h
      by_cases hc : slot i = r ∧ σ.has (slot i) = true
      · rw [if_pos hc] at h
        exact .inr ⟨0, x, rfl, hc.1.symm, h⟩
      · rw [if_neg hc] at h
        exact .inl h
    · exact .inr ⟨j + 1, row, by simpa using h1, by rw [h2]; congr 1; omega, h3⟩
theorem initArgs_keys : ∀ (args : List Row) (i : Nat) (σ : St), (initArgs i args σ).map (·.1) = σ.map (·.1)
  | [], _, _ => rfl
  | x :: args, i, σ => by rw [initArgs, initArgs_keys, keys_set]
theorem S.init {fn : Func} {args : List Row} {w : World} {vals : Array Value} (hargs : ArgsRel w args vals) (hle : args.length ≤ fn.ntmps) :
    S ⟨w, fun _ => False, fn.ntmps⟩ (init fn args) { tmps := vals ++ Array.replicate (fn.ntmps - vals.size) undef, defers := [] } w := by
  have hV : ∀ r, ((Mach.init fn args).get r).ver = 0 := fun r => by
    unfold Mach.init
    rcases initArgs_get args 0 ((keepOf fn).map fun r => (r, ⟨0, []⟩)) r with h | ⟨j, row, _, _, h⟩
    · rw [h, get_new]
    · rw [h]
  have hkeys : (Mach.init fn args).map (·.1) = keepOf fn := by
    unfold Mach.init
    rw [initArgs_keys, List.map_map]
    have : ((fun x : Nat × Ct => x.1) ∘ fun r => (r, (⟨0, []⟩ : Ct))) = id := rfl
    rw [this, List.map_id]
  refine ⟨fun _ => noG, ⟨?_, fun r p r' p' ad c ad' c' h => by simp [noG] at h, fun r p ad c h => by simp [noG] at h, rfl, rfl, rfl, Nat.le_refl _, fun _ _ => rfl, fun t => ?_, fun t => ?_, rfl, ?_, fun t ht => ?_⟩, fun _ => rfl⟩
  · rw [hkeys]
    exact (dedupN_spec _ [] List.nodup_nil).1
  · have hV' : (fun r => ((Mach.init fn args).get r).ver) = fun _ => 0 := funext hV
    rw [hV']
    unfold Mach.init
    rcases initArgs_get args 0 ((keepOf fn).map fun r => (r, ⟨0, []⟩)) (slot t) with h | ⟨j, row, h1, h2, h⟩
    · rw [h, get_new]
      trivial
    · rw [h]
      have := slot_inj h2
      rw [Nat.zero_add] at this
      subst this
      obtain ⟨u, hu, hr⟩ := hargs.2 t row h1
      have hlt : t < vals.size := (Array.getElem?_eq_some_iff.1 hu).1
      have : (vals ++ Array.replicate (fn.ntmps - vals.size) undef).getD t undef = u := by
        rw [Array.getD_eq_getD_getElem?, Array.getElem?_append_left hlt, hu]
        rfl
      rw [this]
      exact hr
  · refine .inl ?_
    unfold Mach.init
    rcases initArgs_get args 0 ((keepOf fn).map fun r => (r, ⟨0, []⟩)) (box t) with h | ⟨j, row, _, h2, _⟩
    · rw [h, get_new]
    · exact absurd h2.symm (slot_ne_box _ _)
  · have := hargs.1
    simp
    omega
  · rw [has_iff, hkeys] at ht
    unfold keepOf at ht
    rcases (dedupN_spec _ [] List.nodup_nil).2 _ ht with h | h
    · cases h
    · rcases List.mem_append.1 h with h | h
      · obtain ⟨u, hu, e⟩ := List.mem_map.1 h
        have := slot_inj e
        subst this
        have := (List.mem_filter.1 hu).2
        simpa using this
      · obtain ⟨u, _, e⟩ := List.mem_map.1 h
        exact absurd e.symm (slot_ne_box _ _)
theorem body_sound (hφ : SemsOk P φ) (hm : P.follows .mixedOrders = true) {n : Nat} {f : FuncId} {fn : Func} (hf : P.funcs[f]? = some fn) {c : Code} (hc : fn.body = some c) {args : List Row} {rs : List Row} (h : body P φ n fn args = some rs)
    (hN : fn.name ≠ "runtime.NumGoroutine") : Sound P f args rs := by
  refine ⟨⟨fn, hf, by rw [hc]; rfl, hN⟩, fun w vals hargs => ?_⟩
  unfold body at h
  cases hb : (Nat.beq args.length (fn.params.size + fn.nfree) && Nat.ble args.length fn.ntmps) with
  | false => rw [hb] at h; cases h
  | true =>
    rw [hb] at h
    simp only [cond_true] at h
    simp only [Bool.and_eq_true, Nat.ble_eq] at hb
    have hbody : bodyOf fn = c := by unfold bodyOf; rw [hc]
    rw [hbody] at h
    have h' := cast (exec_nat (P := P) (φ := φ) (fun o : Option (List Row) => o = some rs) (z := none) (z' := False) (by simp) (keepOf fn) fn.ntmps n c (Mach.init fn args) fun e σ => match e with
      | .exit _ => none
      | _ => resultsK P φ none fn σ some) h
    refine calls_of_wp hf hc (cond_sound hm (E := ⟨w, fun _ => False, fn.ntmps⟩) hφ c _ _ _ _ _ h' (S.init hargs hb.2) fun e σ' a' w' hK hS => ?_)
    cases e with
    | exit i => cases hK
    | normal => exact post_sound (fun _ x => x) hS hK
    | ret => exact post_sound (fun _ x => x) hS hK
end
end Go.Mach
