/- A call in an operation. Conditions: none (lemmas). -/
import Derived.Test.YtkbhcdenfigpoaaN3
set_option linter.all false
namespace Go.Mach
section
variable {P : Program} {φ : Sems} {a : Act} {w : World}
/-- The rows of a call are what its callee is told. -/
theorem argsX_of {E σ G hdr} (h : Rel E σ a w G) (hh : Hdr σ G hdr) {args : Array Operand} {vs : Array Value} {md : List Nat} {ts : List Row} {lr : Row} {caps' : List Pt} {rest : List Arg} (hl : rest.length = args.toList.length) (hcl : caps'.length = vs.size)
    (hts : ∀ (j : Nat) x row, args.toList[j]? = some x → ts[j]? = some row → md.getD j 0 = 3 → allOwn row.2 ∧ ∀ E' G'' V', RelRow E' G'' V' w (fun k q => argG G hdr j (0 :: k :: q)) row (a.eval x))
    (hlr : ∀ (j : Nat) x, args.toList[j]? = some x → md.getD j 0 = 1 ∨ md.getD j 0 = 2 → ArgOk w (Dof (argG G hdr)) (argG G hdr j) (md.getD j 0, lr) (a.eval x))
    (hrest : ∀ (j : Nat) x, args.toList[j]? = some x → ∃ arg, rest[j]? = some arg ∧ (md.getD j 0 = 3 → ∃ t, ts[j]? = some t ∧ arg = (3, t)) ∧ (md.getD j 0 = 1 ∨ md.getD j 0 = 2 → arg = (md.getD j 0, lr)) ∧
      (¬ (md.getD j 0 = 3 ∨ md.getD j 0 = 1 ∨ md.getD j 0 = 2) → arg.1 = 0 ∧ ArgRow w (Dof (argG G hdr)) arg.2 (a.eval x)))
    (hcaps : ∀ (i : Nat) x, caps'[i]? = some x → ∃ u, vs[i]? = some u ∧ ∀ G' V, RelPt (calleeEnv w (Dof (argG G hdr))) G' V x u) :
    ArgsX w (rest ++ caps'.map fun c => (0, (false, [.pt c]))) (args.map a.eval ++ vs) (argG G hdr) where
  size := by simp [hl, hcl]
  inj := argG_inj h hh
  rng := fun i p ad c h1 => (argG_at h hh h1).2
  arg := fun i x hi => by
    by_cases hlt : i < rest.length
    · rw [List.getElem?_append_left hlt] at hi
      have hlt' : i < args.toList.length := by rw [← hl]; exact hlt
      obtain ⟨arg, h1, h2, h3, h4⟩ := hrest i _ (List.getElem?_eq_getElem hlt')
      rw [hi] at h1
      obtain rfl := Option.some.inj h1
      refine ⟨a.eval args.toList[i], ?_, ?_⟩
      · have hlt2 : i < args.size := by simpa using hlt'
        have : i < (args.map a.eval).size := by simpa using hlt2
        rw [Array.getElem?_append_left this]
        simp [hlt2]
      · by_cases c3 : md.getD i 0 = 3
        · obtain ⟨t, ht, rfl⟩ := h2 c3
          obtain ⟨k1, k2⟩ := hts i _ t (List.getElem?_eq_getElem hlt') ht c3
          unfold ArgOk
          rw [if_pos (.inr rfl)]
          exact ⟨k1, k2⟩
        · by_cases c12 : md.getD i 0 = 1 ∨ md.getD i 0 = 2
          · obtain rfl := h3 c12
            exact hlr i _ (List.getElem?_eq_getElem hlt') c12
          · obtain ⟨e, hr⟩ := h4 (fun hm => hm.elim c3 c12)
            unfold ArgOk
            rw [e, if_neg (by omega), if_neg (by omega)]
            exact hr
    · rw [List.getElem?_append_right (by omega)] at hi
      simp only [List.getElem?_map] at hi
      obtain ⟨c, hc, rfl⟩ := Option.map_eq_some_iff.1 hi
      obtain ⟨u, hu, hr⟩ := hcaps _ c hc
      refine ⟨u, ?_, ?_⟩
      · have hsz : (args.map a.eval).size = rest.length := by simp [hl]
        rw [Array.getElem?_append_right (by omega), hsz]
        exact hu
      · unfold ArgOk
        rw [if_neg (by omega), if_neg (by omega)]
        exact hr
theorem capsRel {E G} {σ : St} {caps : List Pt} {f : FuncId} {v : Value} (hcf : RelC E G σ.V w noG (.fn f caps) v) : ∃ vs : Array Value, v = .func (.func f) #[] vs ∧ vs.size = caps.length ∧ ∀ (i : Nat) x, caps[i]? = some x → ∃ u, vs[0 + i]? = some u ∧ RelPt E G σ.V x u := by
  obtain ⟨vs, hv, hs, hh⟩ := hcf
  exact ⟨vs, hv, hs, fun i x hi => by
    obtain ⟨u, hu, hr⟩ := hh i x hi
    exact ⟨u, by rw [Nat.zero_add]; exact hu, hr⟩⟩
/-- The part of a call behind what is taken and lent. -/
theorem goP_sound (hφ : SemsOk P φ) {dst : Option Tmp} {f : Operand} {args : Array Operand} {at_ ty pos after guard} {K : Act → World → Prop} {Q : Exit → Act → World → Prop} {E : Env} {σ : St} {G : GG} {hdr : Nat → Gh} (h : Rel E σ a w G) (hh : Hdr σ G hdr)
    {g : FuncId} {caps : List Pt} (hcf : RelC E G σ.V w noG (.fn g caps) (a.eval f)) {md : List Nat} {ts : List Row} {lr : Row} (hlen : ts.length = args.toList.length)
    (hts : ∀ (j : Nat) x row, args.toList[j]? = some x → ts[j]? = some row → md.getD j 0 = 3 → allOwn row.2 ∧ ∀ E' G'' V', RelRow E' G'' V' w (fun k q => argG G hdr j (0 :: k :: q)) row (a.eval x))
    (hlr : ∀ (j : Nat) x, args.toList[j]? = some x → md.getD j 0 = 1 ∨ md.getD j 0 = 2 → ArgOk w (Dof (argG G hdr)) (argG G hdr j) (md.getD j 0, lr) (a.eval x))
    {k : List Row → Pr Unit} {L σ' L'} (hrun : (goP dst g caps md args.toList ts lr k).run φ σ L = some ((), σ', L'))
    (hfin : ∀ outs v δ w' rows vals rs σ1 L1 L2, GrewD w w' (Dof (argG G hdr)) → ResX w w' (argG G hdr) rows vals rs outs v δ →
      (∀ (j : Nat) x, args.toList[j]? = some x → md.getD j 0 = 1 ∨ md.getD j 0 = 2 → rows[j]? = some (md.getD j 0, lr) ∧ vals[j]? = some (a.eval x)) →
      (k outs).run φ σ L1 = some ((), σ1, L2) → ∃ G', Rel E σ1 a w' G' ∧ G' (park 0) = δ 0)
    (hK : ∀ a' w', S E σ' a' w' → K a' w') : Oper.wp P ⟨dst, .call ⟨.value f, args, at_⟩, ty, pos, after, guard⟩ a w K Q := by
  obtain ⟨rest, σ1, L1, h1, h2⟩ := run_bind (φ := φ) (p := restP md args.toList ts lr) hrun
  have hD := argG_clear h hh
  obtain ⟨rfl, hl, hrest⟩ := restP_sound h hD lr args.toList md ts hlen h1
  obtain ⟨caps', σ2, L2, h3, h4⟩ := run_bind h2
  obtain ⟨vs, hv, hs, hcs⟩ := capsRel hcf
  obtain ⟨rfl, hlc, hcaps⟩ := resPts_sound h hD caps vs 0 hcs h3
  obtain ⟨rs0, outs0, hok, h5⟩ := run_call h4
  have hx := argsX_of (vs := vs) h hh hl (hlc.trans hs.symm) hts hlr hrest (fun i x hi => by
    obtain ⟨u, hu, hr⟩ := hcaps i x hi
    exact ⟨u, by rw [Nat.zero_add] at hu; exact hu, hr⟩)
  refine call_core hφ hv hx hok fun v δ w' hg hr => ?_
  obtain ⟨_, σ3, L3, h6, h7⟩ := run_bind h5
  obtain ⟨G', hG', hp0⟩ := hfin _ v δ w' _ _ _ _ _ _ hg hr (fun j x hj hm => by
    obtain ⟨arg, k1, _, k3, _⟩ := hrest j x hj
    have hlt : j < rest.length := (List.getElem?_eq_some_iff.1 k1).1
    refine ⟨by rw [List.getElem?_append_left hlt, k1, k3 hm], ?_⟩
    have hlt2 : j < args.size := by rw [← Array.length_toList, ← hl]; exact hlt
    have : j < (args.map a.eval).size := by simpa using hlt2
    rw [Array.getElem?_append_left this]
    have hx2 : args[j]? = some x := by simpa using hj
    simp [hx2]) h6
  exact hK _ _ (put_sound hG' 0 (by rw [hp0]; exact hr.res _ _ _) h7)
/-! ### a lent variable -/
theorem lendB_sound {E : Env} {σ : St} {G : GG} (h : Rel E σ a w G) (φ : Sems) (y : Nat) {c : C} {v : Value} (hc : RelC E G σ.V w noG c v) {L row σ' L'} (hrun : (lendB c).run φ σ L = some (row, σ', L')) :
    ∃ t ver m b vs e, c = .pt (.ptr (box t) ver [] m 0 0) ∧ σ' = σ.set (box t) ⟨bumpD [] (σ.get (box t)).ver, []⟩ ∧ σ.has (box t) = true ∧ Rel E σ' a w (ldG G (box t) [] (park y) []) ∧ Good G σ.V (ldG G (box t) [] (park y) []) σ'.V ∧ m = row.2.length ∧
      v = .pointer (some ⟨b, 0, none⟩) ∧ G (box t) [] = some (⟨b, 0, none⟩, 1) ∧ w.heap[b]? = some (.cells vs e (0, 0)) ∧ allOwn row.2 ∧ ∀ E' G' V', RelCs E' G' V' w (fun k q => G (box t) (0 :: k :: q)) row.2 vs := by
  unfold lendB at hrun
  split at hrun
  · rename_i r ver m
    obtain ⟨b0, o, rfl, ⟨hnp, hbox⟩, _, hval⟩ := hc
    obtain ⟨t, rfl | rfl | rfl⟩ := np_cases hnp
    · have := hbox rfl; unfold slot at this; omega
    rotate_left
    · have := hbox rfl; unfold ext at this; omega
    simp only [runRd] at hrun
    split at hrun
    · rename_i row0 hrow
      obtain ⟨hb, h2⟩ := run_guard hrun
      simp only [Bool.and_eq_true] at hb
      have hm := beq_eq hb.2
      obtain ⟨row1, σ1, L1, h3, h4⟩ := run_bind h2
      rcases h.box' t with h0 | ⟨row', b', vs, e, hrows, hg', hw, hcs⟩
      · rw [h0] at hrow; simp at hrow
      · rw [hrow] at hrows
        simp only [List.cons.injEq, and_true] at hrows
        subst hrows
        obtain ⟨off, cap, hg, ho⟩ := hval (beq_eq hb.1)
        rw [hg] at hg'
        simp only [Option.some.injEq, Prod.mk.injEq, Addr.mk.injEq, and_true] at hg'
        obtain ⟨⟨rfl, rfl⟩, rfl⟩ := hg'
        have hr : RelRow E G σ.V w (fun k q => G (box t) (0 :: k :: q)) (true, row0.2) (.agg vs) := ⟨vs, rfl, hcs⟩
        obtain ⟨cs, σ2, L2, h5, h6⟩ := run_bind h3
        obtain ⟨rfl, hl, hall⟩ := finCs_run h5
        have := run_ret h6
        simp only [Prod.mk.injEq] at this
        obtain ⟨rfl, rfl, rfl⟩ := this
        obtain ⟨hhas, h7⟩ := run_wr h4
        have := run_ret h7
        simp only [Prod.mk.injEq] at this
        obtain ⟨rfl, rfl, rfl⟩ := this
        have hG := h.rootV (box t) hnp [] (bumpD [] _) (G' := ldG G (box t) [] (park y) []) (ldG_inj h.inj _ _ _ _) (ldG_rng h.rng _ _ _ _)
          (fun r' h1 h2 => funext fun q => ldG_out (fun e => np_ne_park h1 y e.1) (fun e => h2 e.1))
          (fun q => ⟨bumpD_le _ _ _, fun hb => ldG_out (fun e => np_ne_park hnp y e.1) (fun e => bumpD_eq hb e.2)⟩)
          (fun t' e => absurd e.symm (slot_ne_box t' t)) (fun t' e => ⟨.inl rfl, fun ht => by
            have := box_inj e
            subst this
            rw [ldG_out (fun e => np_ne_park hnp y e.1) (fun e => e.2.2 rfl)]
            exact h.xbox t ht⟩) (fun t' e => absurd e (box_ne_ext t t')) hhas
        refine ⟨t, ver, m, b0, vs, e, rfl, rfl, hhas, hG.1, hG.2, by simp only; rw [hl]; exact hm, by simp [ho], hg, hw, fun k c hk => ?_, fun E' G' V' => ?_⟩
        · obtain ⟨c0, t0, _, _, rfl⟩ := hall k c hk
          exact ⟨t0, rfl⟩
        · obtain ⟨vs', e', hc'⟩ := finRow_rel hr hl hall E' G' V'
          cases e'
          exact hc'
    · exact (run_fail hrun).elim
  · exact (run_fail hrun).elim
theorem giveB_sound {E : Env} {σ : St} {G : GG} (h : Rel E σ a w G) (φ : Sems) (y : Nat) {t ver m b : Nat} {out : Row} {vs e} (hg : G (box t) [] = some (⟨b, 0, none⟩, 1)) (hw : w.heap[b]? = some (.cells vs e (0, 0))) (hc : ∀ E' G' V', RelCs E' G' V' w (fun k q => G (park y) (0 :: k :: q)) out.2 vs)
    {L σ' L'} (hrun : (giveB (.pt (.ptr (box t) ver [] m 0 0)) out).run φ σ L = some ((), σ', L')) : ∃ G', Rel E σ' a w G' ∧ ∀ z, z ≠ y → G' (park z) = G (park z) := by
  simp only [giveB, runRd] at hrun
  obtain ⟨_, h2⟩ := run_guard hrun
  obtain ⟨hhas, h3⟩ := run_wr h2
  have := run_ret h3
  simp only [Prod.mk.injEq, true_and] at this
  obtain ⟨rfl, rfl⟩ := this
  have hself : ldG G (park y) [] (box t) [] (box t) [] = G (box t) [] := ldG_out (fun e => e.2.2 rfl) (fun e => np_ne_park (np_box t) y e.1)
  refine ⟨ldG G (park y) [] (box t) [], (h.rootV (box t) (np_box t) [out] _ (ldG_inj h.inj _ _ _ _) (ldG_rng h.rng _ _ _ _)
    (fun r' h1 h2 => funext fun q => ldG_out (fun e => h2 e.1) (fun e => np_ne_park h1 y e.1))
    (fun q => ⟨bumpD_le _ _ _, fun hb => ldG_out (fun e => bumpD_eq hb e.2) (fun e => np_ne_park (np_box t) y e.1)⟩)
    (fun t' e => absurd e.symm (slot_ne_box t' t)) (fun t' e' => ⟨.inr ⟨out, b, vs, e, rfl, by rw [hself]; exact hg, hw, ?_⟩, fun ht => by
      have := box_inj e'
      subst this
      rw [hself]
      exact h.xbox t ht⟩) (fun t' e => absurd e (box_ne_ext t t')) hhas).1, fun z hz => funext fun q => ldG_out (fun e => np_ne_park (np_box t) z e.1.symm) (fun e => hz (park_inj e.1))⟩
  have : (fun (k : Nat) (q : Path) => ldG G (park y) [] (box t) [] (box t) (0 :: k :: q)) = fun k q => G (park y) (0 :: k :: q) := by
    funext k q
    exact ldG_in G (park y) [] (box t) [] (q := 0 :: k :: q) (by simp)
  rw [this]
  exact hc _ _ _
end
end Go.Mach
