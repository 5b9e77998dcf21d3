/- Calls that borrow, take and lend are sound. Conditions: none (lemmas). -/
import Derived.Test.YtkbhcdenfigpoaaN1
set_option linter.all false
namespace Go.Mach
/-- The blocks of the arguments that are lent or handed over. -/
def Dof (γ : Nat → Gh) (b : Nat) : Prop := ∃ i p ad c, γ i p = some (ad, c) ∧ ad.block = b
/-- All cells own what they hold. -/
def allOwn (cs : List C) : Prop := ∀ (k : Nat) c, cs[k]? = some c → ∃ t, c = C.tr true t
def boxIs (w : World) (γ : Gh) (cs : List C) (u : Value) : Prop := ∃ b vs e, u = .pointer (some ⟨b, 0, none⟩) ∧ γ [] = some (⟨b, 0, none⟩, 1) ∧ w.heap[b]? = some (.cells vs e (0, 0)) ∧ ∀ E G V, RelCs E G V w (fun k q => γ (0 :: k :: q)) cs vs
/-- What an argument is told as. -/
def ArgOk (w : World) (D : Nat → Prop) (γ : Gh) (x : Arg) (u : Value) : Prop :=
  if x.1 = 1 ∨ x.1 = 3 then allOwn x.2.2 ∧ ∀ E G V, RelRow E G V w (fun k q => γ (0 :: k :: q)) x.2 u
  else if x.1 = 2 then allOwn x.2.2 ∧ boxIs w γ x.2.2 u
  else ArgRow w D x.2 u
structure ArgsX (w : World) (args : List Arg) (vals : Array Value) (γ : Nat → Gh) : Prop where
  size : vals.size = args.length
  inj : ∀ i p i' p' ad c ad' c', γ i p = some (ad, c) → γ i' p' = some (ad', c') → ad.block = ad'.block → i = i' ∧ p = p'
  rng : ∀ i p ad c, γ i p = some (ad, c) → ad.block < w.heap.size
  arg : ∀ (i : Nat) x, args[i]? = some x → ∃ u, vals[i]? = some u ∧ ArgOk w (Dof γ) (γ i) x u
structure GrewD (w w' : World) (D : Nat → Prop) : Prop where
  os : w'.os = w.os
  tape : w'.tape = w.tape
  output : w'.output = w.output
  size : w.heap.size ≤ w'.heap.size
  old : ∀ b, b < w.heap.size → ¬ D b → w'.heap[b]? = w.heap[b]?
/-- What a lent argument holds behind the call. -/
def OutOk (w' : World) (δ : Gh) (t : Nat) (o : Row) (u : Value) : Prop :=
  if t = 1 then allOwn o.2 ∧ ∀ E G V, RelRow E G V w' (fun k q => δ (0 :: k :: q)) o u
  else if t = 2 then allOwn o.2 ∧ boxIs w' δ o.2 u else True
structure ResX (w w' : World) (γ : Nat → Gh) (args : List Arg) (vals : Array Value) (rs outs : List Row) (v : Value) (δ : Nat → Gh) : Prop where
  inj : ∀ i p i' p' ad c ad' c', δ i p = some (ad, c) → δ i' p' = some (ad', c') → ad.block = ad'.block → i = i' ∧ p = p'
  rng : ∀ i p ad c, δ i p = some (ad, c) → (w.heap.size ≤ ad.block ∨ Dof γ ad.block) ∧ ad.block < w'.heap.size
  res : ∀ E G V, RelRows E G V w' (δ 0) rs v
  out : ∀ (i : Nat) x, args[i]? = some x → ∃ o u, outs[i]? = some o ∧ vals[i]? = some u ∧ OutOk w' (δ (i + 1)) x.1 o u
/-- The meanings are true. -/
def Sound (P : Program) (f : FuncId) (args : List Arg) (rs outs : List Row) : Prop := (∃ fn, P.funcs[f]? = some fn ∧ fn.body.isSome = true ∧ fn.name ≠ "runtime.NumGoroutine") ∧
  ∀ (w : World) (vals : Array Value) (γ : Nat → Gh), ArgsX w args vals γ → Calls P f vals w fun e w' => ∃ v δ, e = .returned v ∧ GrewD w w' (Dof γ) ∧ ResX w w' γ args vals rs outs v δ
def SemsOk (P : Program) (φ : Sems) : Prop := ∀ f args rs outs, (∀ R z K, φ.run f args R z K = K rs outs) → Sound P f args rs outs
section
variable {P : Program} {φ : Sems} {a : Act} {w : World}
/-! ### the world turns where memory is lent -/
theorem RelOwn.extL {w w' : World} {t : T} {g : Gh} {v : Value} (h : RelOwn w t g v) (hb : ∀ p m n f ad c, t.at p = some (.arr m n f) → g p = some (ad, c) → w'.heap[ad.block]? = w.heap[ad.block]?) : RelOwn w' t g v := by
  induction t generalizing g v with
  | int | bool | str | hole | lent => exact h
  | arr m n f ih =>
    rcases h with h | ⟨b, off, cap, cs, e, hg, hv, hn, hc, hs, hh⟩
    · exact .inl h
    · refine .inr ⟨b, off, cap, cs, e, hg, hv, hn, (hb [] m n f _ _ rfl hg).trans hc, hs, fun j hj k hk => ?_⟩
      obtain ⟨u, hu, hr⟩ := hh j hj k hk
      refine ⟨u, hu, ih j k hr fun p m' n' f' ad c hp hg' => hb (j :: k :: p) m' n' f' ad c ?_ hg'⟩
      have hb : (Nat.blt j n && Nat.blt k m) = true := by simp only [Bool.and_eq_true, Nat.blt_eq]; exact ⟨hj, hk⟩
      simp only [T.at, hb, cond_true]
      exact hp
theorem RelC.extL {E G V w w' g c v} (h : RelC E G V w g c v) (hb : ∀ t, c = .tr true t → ∀ p m n f ad c, t.at p = some (.arr m n f) → g p = some (ad, c) → w'.heap[ad.block]? = w.heap[ad.block]?) : RelC E G V w' g c v := by
  cases c with
  | tr o t => cases o with
    | true => exact RelOwn.extL h (hb t rfl)
    | false => exact h
  | _ => exact h
theorem RelRows.extL {E G V w w' g rows v} (h : RelRows E G V w g rows v) (hb : ∀ p m n f ad c, rowsAt rows p = some (.arr m n f) → g p = some (ad, c) → w'.heap[ad.block]? = w.heap[ad.block]?) : RelRows E G V w' g rows v := by
  have hrow : ∀ (i : Nat) (row : Row) (x : Value), rows[i]? = some row → RelRow E G V w (fun k q => g (i :: k :: q)) row x → RelRow E G V w' (fun k q => g (i :: k :: q)) row x := by
    intro i row x hi hr
    obtain ⟨ag, cs⟩ := row
    have hcs : ∀ (k : Nat) c, cs[k]? = some c → ∀ u, RelC E G V w (fun q => g (i :: k :: q)) c u → RelC E G V w' (fun q => g (i :: k :: q)) c u := by
      intro k c hk u hu
      refine hu.extL fun t e p m n f ad c' hp hg => hb (i :: k :: p) m n f ad c' ?_ hg
      subst e
      simp only [rowsAt, hi, hk]
      exact hp
    cases ag with
    | true =>
      obtain ⟨vs, e, hc⟩ := hr
      exact ⟨vs, e, hc.1, fun k c hk => let ⟨u, hu, h1⟩ := hc.2 k c hk; ⟨u, hu, hcs k c hk u h1⟩⟩
    | false => match cs, hr, hcs with
      | [], hr, _ => exact hr
      | [c], hr, hcs => exact hcs 0 c rfl _ hr
  match rows, h, hrow with
  | [], _, _ => trivial
  | [row], hx, hrow => exact hrow 0 row v rfl hx
  | r :: r' :: rs, ⟨vs, e, hs, hi⟩, hrow => exact ⟨vs, e, hs, fun i row hr => let ⟨u, hu, h1⟩ := hi i row hr; ⟨u, hu, hrow i row u hr h1⟩⟩
theorem Rel.step {E σ G w'} (h : Rel E σ a w G) {D : Nat → Prop} (hD : Clear E σ G D) (hg : GrewD w w' D) {G' : GG} (hnp : ∀ r, notPark r → G' r = G r) (hi : GInj G') (hr : GRng E w' G') : Rel E σ a w' G' := by
  have hgood : Good G (fun r => (σ.get r).ver) G' (fun r => (σ.get r).ver) := fun r hr' p => ⟨Nat.le_refl _, fun _ => by rw [hnp r hr']⟩
  have hlive : ∀ r p m n f ad c, notPark r → rowsAt (σ.get r).rows p = some (.arr m n f) → G r p = some (ad, c) → w'.heap[ad.block]? = w.heap[ad.block]? := fun r p m n f ad c h1 h2 h3 =>
    hg.old _ (h.rng _ _ _ _ h3).2 (hD.live _ _ _ _ _ _ _ h1 h2 h3)
  exact {
    nd := h.nd
    inj := hi
    rng := hr
    os := hg.os.trans h.os
    tape := hg.tape.trans h.tape
    output := hg.output.trans h.output
    size := Nat.le_trans h.size hg.size
    kept := fun b hb => by
      refine (hg.old b (Nat.lt_of_lt_of_le hb.1 h.size) fun hd => ?_).trans (h.kept b hb)
      rcases hD.out b hd with h1 | h1
      · exact absurd hb.1 (by omega)
      · exact hb.2 h1
    slots := fun t => by
      rw [hnp _ (np_slot t)]
      exact ((h.slots t).extL fun p m n f ad c h1 h2 => hlive _ _ _ _ _ _ _ (np_slot t) h1 h2).good hgood
    boxes := fun t => by
      rw [hnp _ (np_box t)]
      rcases h.boxes t with h0 | ⟨row, b, cs, e, h1, h2, h3, h4⟩
      · exact .inl h0
      · have hbl : w'.heap[b]? = w.heap[b]? := hg.old _ (h.rng _ _ _ _ h2).2 (hD.boxes t _ _ (by rw [h1]; simp) h2)
        refine .inr ⟨row, b, cs, e, h1, h2, hbl.trans h3, RelCs.good hgood ⟨h4.1, fun k c hk => ?_⟩⟩
        obtain ⟨u, hu, hr⟩ := h4.2 k c hk
        refine ⟨u, hu, hr.extL fun t' e' p m n f ad c' hp hg' => hlive (box t) (0 :: k :: p) m n f ad c' (np_box t) ?_ hg'⟩
        subst e'
        simp only [rowsAt, h1, List.getElem?_cons_zero, hk]
        exact hp
    exts := fun t => by
      rw [hnp _ (np_ext t)]
      exact ((h.exts t).extL fun p m n f ad c h1 h2 => hlive _ _ _ _ _ _ _ (np_ext t) h1 h2).good hgood
    xbox := fun t ht => by rw [hnp _ (np_box t)]; exact h.xbox t ht
    defers := h.defers
    tm := h.tm
    here := h.here }
/-! ### giving back -/
theorem giveC_sound {E σ G} (h : Rel E σ a w G) (φ : Sems) (y k : Nat) {r ver : Nat} {p : Path} {m s n : Nat} (hnp : notPark r) (hat : rowsAt (σ.get r).rows p = some (.lent m n)) {t : T} {u : Value} (ho : RelOwn w t (cellG G y k (.ref r ver p m s n)) u)
    {L σ' L'} (hrun : (giveC (.ref r ver p m s n) (.tr true t)).run φ σ L = some ((), σ', L')) :
    ∃ rows' f, t = .arr m n f ∧ rowsPut (σ.get r).rows (.arr m n f) p = some rows' ∧ σ' = σ.set r ⟨bumpD p (σ.get r).ver, rows'⟩ ∧ σ.has r = true ∧ Rel E σ' a w (ldG G (park y) [0, k] r p) ∧ Good G σ.V (ldG G (park y) [0, k] r p) σ'.V := by
  unfold giveC at hrun
  split at hrun
  · rename_i e1 e2
    cases e1
    cases e2
    rename_i m' n' f
    simp only [runRd] at hrun
    obtain ⟨hb, hrun2⟩ := run_guard hrun
    simp only [Bool.and_eq_true] at hb
    obtain ⟨hb1, hb2, hb3⟩ := hb
    have e1 := beq_eq hb1; have e2 := beq_eq hb2
    subst e1; subst e2
    have hput := (rows_of_ok hb3).2 (.arr m n f)
    generalize rowsSet (σ.get r).rows (.arr m n f) p = rows' at hrun2 hput
    obtain ⟨hhas, hrun3⟩ := run_wr hrun2
    have := run_ret hrun3
    simp only [Prod.mk.injEq, true_and] at this
    obtain ⟨rfl, rfl⟩ := this
    obtain ⟨h1, h2⟩ := h.rootD (y := 0) (d := []) hnp (fun t e => e ▸ hnp) hat hput hhas (G' := ldG G (park y) [0, k] r p) (ldG_inj h.inj _ _ _ _) (ldG_rng h.rng _ _ _ _)
      (fun r' h1 h2 => funext fun q => ldG_out (fun e => h2 e.1) (fun e => np_ne_park h1 y e.1)) (fun q hq => ldG_out (fun e => hq e.2) (fun e => np_ne_park hnp y e.1))
      (fun x hx => by
        have hself : ldG G (park y) [0, k] r p r p = G r p := ldG_out (fun e => e.2.2 rfl) (fun e => np_ne_park hnp y e.1)
        have hgh : (fun q => ldG G (park y) [0, k] r p r (p ++ q)) = cellG G y k (.ref r ver p m s n) := by
          funext q
          unfold cellG
          split
          · rename_i e; subst e; rw [List.append_nil]; exact hself
          · rename_i e
            exact ldG_in G (park y) [0, k] r p e
        refine arr_of_lent hx (v := u) (by rw [hgh]; exact ho) ?_
        simp only [List.append_nil]
        exact hself) rfl rfl
    exact ⟨rows', f, rfl, hput, rfl, hhas, h1, h2⟩
  · rename_i e1; cases e1
  · exact (run_fail hrun).elim
theorem giveCs_shape {E : Env} (φ : Sems) : ∀ (l l2 : List C) (σ : St) {L σ' L'}, (giveCs l l2).run φ σ L = some ((), σ', L') → l2.length = l.length ∧ ∀ (j : Nat) r ver p m s n, l[j]? = some (.ref r ver p m s n) → ∃ f, l2[j]? = some (.tr true (.arr m n f))
  | [], [], σ, L, σ', L', _ => ⟨rfl, fun j r ver p m s n hj => by simp at hj⟩
  | [], _ :: _, σ, L, σ', L', h => (run_fail h).elim
  | _ :: _, [], σ, L, σ', L', h => (run_fail h).elim
  | c :: l, d :: l2, σ, L, σ', L', h => by
    obtain ⟨_, σ1, L1, h1, h2⟩ := run_bind (φ := φ) (p := giveC c d) h
    obtain ⟨hl, hh⟩ := giveCs_shape (E := E) φ l l2 σ1 h2
    refine ⟨by simp [hl], fun j r ver p m s n hj => ?_⟩
    cases j with
    | zero =>
      simp only [List.getElem?_cons_zero, Option.some.injEq] at hj
      subst hj
      obtain ⟨m', n', f, rfl⟩ : ∃ m' n' f, d = .tr true (.arr m' n' f) := by
        unfold giveC at h1
        split at h1
        · exact ⟨_, _, _, rfl⟩
        · rename_i e1; cases e1
        · exact (run_fail h1).elim
      simp only [giveC, runRd] at h1
      obtain ⟨hb, _⟩ := run_guard h1
      simp only [Bool.and_eq_true] at hb
      have e1 := beq_eq hb.1; have e3 := beq_eq hb.2.1
      subst e1; subst e3
      exact ⟨_, rfl⟩
    | succ j => simpa using hh j r ver p m s n (by simpa using hj)
theorem giveCs_sound {E} (φ : Sems) (y : Nat) : ∀ (l l2 : List C) (k0 : Nat) (σ : St) (G : GG), Rel E σ a w G → pairsOk (l.flatMap locOf) = true →
    (∀ (j : Nat) r ver p m s n, l[j]? = some (.ref r ver p m s n) → notPark r ∧ rowsAt (σ.get r).rows p = some (.lent m n) ∧ ∃ f u, l2[j]? = some (.tr true (.arr m n f)) ∧ RelOwn w (.arr m n f) (cellG G y (k0 + j) (.ref r ver p m s n)) u) →
    (∀ (j j' : Nat) r ver p m s n ver' m' s' n', l[j]? = some (.ref r ver p m s n) → l[j']? = some (.ref r ver' p m' s' n') → j = j') →
    ∀ {L σ' L'}, (giveCs l l2).run φ σ L = some ((), σ', L') → ∃ G', Rel E σ' a w G' ∧ Good G σ.V G' σ'.V ∧ ∀ z, z ≠ y → G' (park z) = G (park z)
  | [], [], k0, σ, G, h, _, _, _, L, σ', L', hrun => by
    have := run_ret (φ := φ) hrun
    simp only [Prod.mk.injEq, true_and] at this
    obtain ⟨rfl, rfl⟩ := this
    exact ⟨G, h, Good.refl _ _, fun _ _ => rfl⟩
  | [], _ :: _, k0, σ, G, h, _, _, _, L, σ', L', hrun => (run_fail hrun).elim
  | _ :: _, [], k0, σ, G, h, _, _, _, L, σ', L', hrun => (run_fail hrun).elim
  | c :: l, d :: l2, k0, σ, G, h, hpo, hrec, hdis, L, σ', L', hrun => by
    obtain ⟨_, σ1, L1, h1, h2⟩ := run_bind (φ := φ) (p := giveC c d) hrun
    have htail : ∀ (σ1 : St) (G1 : GG), Rel E σ1 a w G1 → Good G σ.V G1 σ1.V → (∀ z, z ≠ y → G1 (park z) = G (park z)) →
        (∀ (j : Nat) r ver p m s n, l[j]? = some (.ref r ver p m s n) → notPark r → rowsAt (σ.get r).rows p = some (.lent m n) → rowsAt (σ1.get r).rows p = some (.lent m n) ∧ cellG G1 y (k0 + 1 + j) (.ref r ver p m s n) = cellG G y (k0 + 1 + j) (.ref r ver p m s n)) →
        pairsOk (l.flatMap locOf) = true → ∀ {L1}, (giveCs l l2).run φ σ1 L1 = some ((), σ', L') → ∃ G', Rel E σ' a w G' ∧ Good G σ.V G' σ'.V ∧ ∀ z, z ≠ y → G' (park z) = G (park z) := by
      intro σ1 G1 hG1 hgood hpk hkeep hpo1 L1 hr
      obtain ⟨G', hG', hg', hpk'⟩ := giveCs_sound φ y l l2 (k0 + 1) σ1 G1 hG1 hpo1 (fun j r ver p m s n hj => by
        obtain ⟨h5, h6, f, u, h7, h8⟩ := hrec (j + 1) r ver p m s n (by simpa using hj)
        obtain ⟨h9, h10⟩ := hkeep j r ver p m s n hj h5 h6
        refine ⟨h5, h9, f, u, by simpa using h7, ?_⟩
        rw [h10]
        have e : k0 + (j + 1) = k0 + 1 + j := by omega
        rw [e] at h8
        exact h8) (fun j j' r ver p m s n ver' m' s' n' hj hj' => by
          have := hdis (j + 1) (j' + 1) r ver p m s n ver' m' s' n' (by simpa using hj) (by simpa using hj')
          omega) hr
      exact ⟨G', hG', hgood.trans hg', fun z hz => (hpk' z hz).trans (hpk z hz)⟩
    cases c with
    | ref r ver p m s n =>
      simp only [List.flatMap_cons, locOf, List.singleton_append, pairsOk, Bool.and_eq_true, List.all_eq_true] at hpo
      obtain ⟨hnp, hat, f, u, hd, hrel⟩ := hrec 0 r ver p m s n rfl
      simp only [List.getElem?_cons_zero, Option.some.injEq] at hd
      subst hd
      rw [Nat.add_zero] at hrel
      obtain ⟨rows', f', _, hput, rfl, hhas, hG1, hgood⟩ := giveC_sound h φ y k0 hnp hat hrel h1
      refine htail _ _ hG1 hgood (fun z hz => funext fun q => ldG_out (fun e => np_ne_park hnp z e.1.symm) (fun e => hz (park_inj e.1))) (fun j r1 ver1 p1 m1 s1 n1 hj hnp1 hat1 => ?_) hpo.2 h2
      have hmem : (r1, p1) ∈ l.flatMap locOf := List.mem_flatMap.2 ⟨_, List.mem_of_getElem? hj, by simp [locOf]⟩
      have hok := hpo.1 (r1, p1) hmem
      have hne : ¬ (r = r1 ∧ p = p1) := by
        rintro ⟨rfl, rfl⟩
        have := hdis 0 (j + 1) r ver p m s n ver1 m1 s1 n1 rfl (by simpa using hj)
        omega
      have hg1 : ldG G (park y) [0, k0] r p r1 p1 = G r1 p1 := ldG_out (fun e => by
        obtain ⟨rfl, e2, e3⟩ := e
        exact e3 (e2.eq_of_length (okPair_len hok))) (fun e => np_ne_park hnp1 y e.1)
      refine ⟨?_, ?_⟩
      · by_cases er : r = r1
        · subst er
          rw [get_set, if_pos ⟨rfl, hhas⟩]
          exact rowsAt_put_ne (okPair_len hok).symm (fun e => hne ⟨rfl, e.symm⟩) hat1 hput
        · rw [get_set, if_neg fun e => er e.1]
          exact hat1
      · funext q
        unfold cellG
        split
        · exact hg1
        · refine ldG_out (fun e => np_ne_park hnp y e.1.symm) (fun e => ?_)
          have := e.2.1
          simp only [List.cons_prefix_cons] at this
          omega
    | tr o t =>
      have : (giveC (.tr o t) d) = .ret () := by cases d <;> rfl
      rw [this] at h1
      have := run_ret h1
      simp only [Prod.mk.injEq, true_and] at this
      obtain ⟨rfl, rfl⟩ := this
      exact htail _ G h (Good.refl _ _) (fun _ _ => rfl) (fun j r ver p m s n hj hnp hat => ⟨hat, rfl⟩) hpo h2
    | pt x => exact (run_fail (φ := φ) (α := Unit) h1).elim
    | fn f caps => exact (run_fail (φ := φ) (α := Unit) h1).elim
    | dead => exact (run_fail (φ := φ) (α := Unit) h1).elim
end
end Go.Mach
