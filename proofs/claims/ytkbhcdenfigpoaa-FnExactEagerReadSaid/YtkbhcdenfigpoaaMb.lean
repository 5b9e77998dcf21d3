/- Regions in whatever order, and a state trimmed. Conditions: none (lemmas). -/
import Derived.Test.YtkbhcdenfigpoaaMa
set_option linter.all false
namespace Go.Mach
/-! ### two programs that touch nothing in common -/
def agree (M : Log) (σ τ : St) : Prop := ∀ r b, (r, b) ∈ M → τ.get r = σ.get r
theorem run_agree {α : Type} (φ : Sems) (p : Pr α) : ∀ (σ : St) (L : Log) (a : α) (σ1 : St) (L1 : Log), p.run φ σ L = some (a, σ1, L1) →
    ∃ M, L1 = M ++ L ∧ σ1.map (·.1) = σ.map (·.1) ∧ (∀ r, (r, true) ∉ M → σ1.get r = σ.get r) ∧
      ∀ (τ : St) (L' : Log), τ.map (·.1) = σ.map (·.1) → agree M σ τ → ∃ τ1, p.run φ τ L' = some (a, τ1, M ++ L') ∧ τ1.map (·.1) = τ.map (·.1) ∧
        (∀ r, (r, true) ∈ M → τ1.get r = σ1.get r) ∧ (∀ r, (r, true) ∉ M → τ1.get r = τ.get r) := by
  induction p with
  | ret a =>
    intro σ L a' σ1 L1 h
    have e := Option.some.inj h
    obtain ⟨rfl, rfl, rfl⟩ : a = a' ∧ σ = σ1 ∧ L = L1 := ⟨congrArg (·.1) e, congrArg (·.2.1) e, congrArg (·.2.2) e⟩
    exact ⟨[], rfl, rfl, fun _ _ => rfl, fun τ L' _ _ => ⟨τ, rfl, rfl, fun _ hm => absurd hm (by simp), fun _ _ => rfl⟩⟩
  | rd r k ih =>
    intro σ L a σ1 L1 h
    obtain ⟨M, e, h1, h2, h3⟩ := ih _ σ _ a σ1 L1 h
    refine ⟨M ++ [(r, false)], by simp [e], h1, fun r' hr => h2 r' (by simp at hr; exact hr), fun τ L' hk ha => ?_⟩
    obtain ⟨τ1, t1, t2, t3, t4⟩ := h3 τ ((r, false) :: L') hk fun r' b hm => ha r' b (by simp [hm])
    refine ⟨τ1, ?_, t2, fun r' hr => t3 r' (by simpa using hr), fun r' hr => t4 r' (by simp at hr; exact hr)⟩
    show (k (τ.get r)).run φ τ ((r, false) :: L') = _
    rw [ha r false (by simp), t1]
    simp
  | wr r c k ih =>
    intro σ L a σ1 L1 h
    simp only [Pr.run] at h
    cases hh : σ.has r with
    | false => simp [hh] at h
    | true =>
      simp only [hh, cond_true] at h
      obtain ⟨M, e, h1, h2, h3⟩ := ih _ _ a σ1 L1 h
      refine ⟨M ++ [(r, true)], by simp [e], by rw [h1, keys_set], fun r' hr => ?_, fun τ L' hk ha => ?_⟩
      · simp only [List.mem_append, List.mem_singleton, Prod.mk.injEq, and_true, not_or] at hr
        rw [h2 r' hr.1, get_set]
        rw [if_neg fun x => hr.2 x.1.symm]
      · have hτ : τ.has r = true := by rw [has_iff] at *; rwa [hk]
        obtain ⟨τ1, t1, t2, t3, t4⟩ := h3 (τ.set r c) ((r, true) :: L') (by rw [keys_set, keys_set, hk]) fun r' b hm => by
          rw [get_set, get_set, hh, hτ]
          by_cases er : r = r'
          · simp [er]
          · simp only [er, false_and, if_false]
            exact ha r' b (by simp [hm])
        refine ⟨τ1, by simp only [Pr.run, hτ, cond_true]; rw [t1]; simp, by rw [t2, keys_set], fun r' hr => ?_, fun r' hr => ?_⟩
        · by_cases hm : (r', true) ∈ M
          · exact t3 r' hm
          · simp only [List.mem_append, hm, List.mem_singleton, Prod.mk.injEq, and_true, false_or] at hr
            subst hr
            rw [t4 _ hm, h2 _ hm, get_set, get_set, hh, hτ]
            simp
        · simp only [List.mem_append, List.mem_singleton, Prod.mk.injEq, and_true, not_or] at hr
          rw [t4 _ hr.1, get_set, if_neg fun x => hr.2 x.1.symm]
  | call f as k ih =>
    intro σ L a σ1 L1 h
    simp only [Pr.run] at h
    rcases φ.det f as with hd | ⟨rs, outs, hd⟩
    · rw [hd] at h; cases h
    · rw [hd] at h
      obtain ⟨M, e, h1, h2, h3⟩ := ih rs outs σ _ a σ1 L1 h
      refine ⟨M, e, h1, h2, fun τ L' hk ha => ?_⟩
      obtain ⟨τ1, t1, t2⟩ := h3 τ L' hk ha
      exact ⟨τ1, by simp only [Pr.run, hd]; exact t1, t2⟩
  | ask f k ih => intro σ L a σ1 L1 h; exact ih _ _ _ _ _ _ h
  | br b x y ihx ihy =>
    intro σ L a σ1 L1 h
    cases b with
    | true => exact ihx _ _ _ _ _ h
    | false => exact ihy _ _ _ _ _ h
  | fail => intro σ L a σ1 L1 h; exact absurd h (by simp [Pr.run])
theorem disj_spec {L L' : Log} (h : disjL L L' = true) {r : Nat} {b b' : Bool} (h1 : (r, b) ∈ L) (h2 : (r, b') ∈ L') : b = false ∧ b' = false := by
  unfold disjL at h
  rw [List.all_eq_true] at h
  have := h _ h1
  rw [List.all_eq_true] at this
  have := this _ h2
  simpa [beqT] using this
theorem st_ext : ∀ {σ τ : St}, (σ.map (·.1)).Nodup → τ.map (·.1) = σ.map (·.1) → (∀ r, τ.get r = σ.get r) → τ = σ
  | [], [], _, _, _ => rfl
  | [], _ :: _, _, h, _ => by simp at h
  | _ :: _, [], _, h, _ => by simp at h
  | (r, c) :: σ, (r', c') :: τ, hn, h, hg => by
    simp only [List.map_cons, List.cons.injEq] at h
    obtain ⟨rfl, hk⟩ := h
    simp only [List.map_cons, List.nodup_cons] at hn
    have hc := hg r'
    simp only [St.get, beqT, cond_true] at hc
    subst hc
    congr 1
    refine st_ext hn.2 hk fun r => ?_
    by_cases e : r' = r
    · subst e
      have h1 : St.has σ r' = false := by
        cases hh : St.has σ r' with
        | false => rfl
        | true => exact absurd ((has_iff σ r').1 hh) hn.1
      have h2 : St.has τ r' = false := by
        cases hh : St.has τ r' with
        | false => rfl
        | true => exact absurd ((has_iff τ r').1 hh) (by rw [hk]; exact hn.1)
      rw [get_absent _ _ h1, get_absent _ _ h2]
    · have := hg r
      simpa only [St.get, beqF e, cond_false] using this
theorem commute {α β : Type} {φ : Sems} {p : Pr α} {q : Pr β} {σ σ1 σ2 : St} {a : α} {b : β} {M N : Log} (hn : (σ.map (·.1)).Nodup) (hp : p.run φ σ [] = some (a, σ1, M)) (hq : q.run φ σ1 [] = some (b, σ2, N)) (hd : disjL M N = true) :
    ∃ τ1, q.run φ σ [] = some (b, τ1, N) ∧ p.run φ τ1 [] = some (a, σ2, M) := by
  obtain ⟨M', e, p1, p2, p3⟩ := run_agree φ p _ _ _ _ _ hp
  simp only [List.append_nil] at e
  subst e
  obtain ⟨N', e, q1, q2, q3⟩ := run_agree φ q _ _ _ _ _ hq
  simp only [List.append_nil] at e
  subst e
  obtain ⟨τ1, t1, t2, t3, t4⟩ := q3 σ [] p1.symm fun r b hm => (p2 r fun hm' => absurd (disj_spec hd hm' hm).1 (by simp)).symm
  have hNM : ∀ r b, (r, b) ∈ M → (r, true) ∉ N := fun r b hm hm' => absurd (disj_spec hd hm hm').2 (by simp)
  have hMN : ∀ r b, (r, b) ∈ N → (r, true) ∉ M := fun r b hm hm' => absurd (disj_spec hd hm' hm).1 (by simp)
  obtain ⟨τ2, u1, u2, u3, u4⟩ := p3 τ1 [] t2 fun r b hm => t4 r (hNM r b hm)
  simp only [List.append_nil] at t1 u1
  refine ⟨τ1, t1, ?_⟩
  have : τ2 = σ2 := by
    refine st_ext (by rw [q1, p1]; exact hn) (by rw [u2, t2, q1, p1]) fun r => ?_
    by_cases h1 : (r, true) ∈ N
    · rw [u4 r (hMN r true h1), t3 r h1]
    · rw [q2 r h1]
      by_cases h2 : (r, true) ∈ M
      · exact u3 r h2
      · rw [u4 r h2, t4 r h1, p2 r h2]
  rw [u1, this]
/-! ### the operations of a region, in the order of the text -/
section
variable {P : Program} {φ : Sems}
def Runs (P : Program) (φ : Sems) (ops : Array Oper) : St → List (Nat × Oper × Log) → St → Prop
  | σ, [], σf => σ = σf
  | σ, x :: l, σf => ∃ σ1, (operP P ops x.2.1).run φ σ [] = some ((), σ1, x.2.2) ∧ Runs P φ ops σ1 l σf
theorem keys_run {α : Type} {p : Pr α} {σ L a σ1 L1} (h : p.run φ σ L = some (a, σ1, L1)) : σ1.map (·.1) = σ.map (·.1) := by
  obtain ⟨_, _, h, _⟩ := run_agree φ p _ _ _ _ _ h
  exact h
theorem to_front {ops : Array Oper} {x : Nat × Oper × Log} {B : List (Nat × Oper × Log)} {σf : St} : ∀ (A : List (Nat × Oper × Log)) (σ : St), (σ.map (·.1)).Nodup → Runs P φ ops σ (A ++ x :: B) σf → (∀ y ∈ A, disjL y.2.2 x.2.2 = true) →
    ∃ σ1, (operP P ops x.2.1).run φ σ [] = some ((), σ1, x.2.2) ∧ Runs P φ ops σ1 (A ++ B) σf
  | [], σ, _, h, _ => h
  | y :: A, σ, hn, ⟨σ1, h1, h2⟩, hd => by
    obtain ⟨σ2, h3, h4⟩ := to_front A σ1 (by rw [keys_run h1]; exact hn) h2 fun z hz => hd z (by simp [hz])
    obtain ⟨τ, t1, t2⟩ := commute hn h1 h3 (hd y (by simp))
    exact ⟨τ, t1, σ2, t2, h4⟩
/-! ### which operations wait for which -/
theorem edgeBits_spec {acc : List Nat} {j : Nat} : ∀ {es : List Edge}, Nat.testBit (edgeBits acc es) j = true → ∃ e ∈ es, Region.binds .any e = true ∧ (e.on = j ∨ Nat.testBit (acc.getD e.on 0) j = true)
  | [], h => by simp [edgeBits] at h
  | e :: es, h => by
    unfold edgeBits at h
    rw [List.foldr_cons] at h
    cases hb : Region.binds .any e with
    | false =>
      rw [hb, cond_false] at h
      obtain ⟨e', h1, h2⟩ := edgeBits_spec (es := es) h
      exact ⟨e', by simp [h1], h2⟩
    | true =>
      rw [hb, cond_true, Nat.testBit_or, Nat.testBit_or, Bool.or_eq_true, Bool.or_eq_true] at h
      rcases h with (h | h) | h
      · obtain ⟨e', h1, h2⟩ := edgeBits_spec (es := es) h
        exact ⟨e', by simp [h1], h2⟩
      · refine ⟨e, by simp, hb, .inl ?_⟩
        rw [Nat.testBit_two_pow] at h
        simpa using h
      · exact ⟨e, by simp, hb, .inr h⟩
theorem befL_pre : ∀ (l : List Oper) (acc : List Nat), ∃ rest, befL l acc = acc ++ rest
  | [], acc => ⟨[], by simp [befL]⟩
  | o :: l, acc => by
    obtain ⟨rest, h⟩ := befL_pre l (acc ++ [edgeBits acc o.after.toList])
    exact ⟨edgeBits acc o.after.toList :: rest, by rw [befL, h]; simp⟩
theorem befL_len : ∀ (l : List Oper) (acc : List Nat), (befL l acc).length = acc.length + l.length
  | [], acc => by simp [befL]
  | o :: l, acc => by rw [befL, befL_len]; simp; omega
theorem getD_pre {acc rest : List Nat} {k j : Nat} (h : Nat.testBit (acc.getD k 0) j = true) : Nat.testBit ((acc ++ rest).getD k 0) j = true := by
  rw [List.getD_eq_getElem?_getD] at *
  cases hk : acc[k]? with
  | none => rw [hk] at h; simp at h
  | some v => rw [hk] at h; rw [List.getElem?_append_left (List.getElem?_eq_some_iff.1 hk).1, hk]; exact h
theorem befL_spec : ∀ (l : List Oper) (acc : List Nat) (i : Nat) (o : Oper) (j : Nat), l[i]? = some o → Nat.testBit ((befL l acc).getD (acc.length + i) 0) j = true →
    ∃ e ∈ o.after.toList, Region.binds .any e = true ∧ (e.on = j ∨ Nat.testBit ((befL l acc).getD e.on 0) j = true)
  | [], _, _, _, _, h, _ => by simp at h
  | o :: l, acc, 0, o', j, h, hb => by
    simp at h
    subst h
    obtain ⟨rest, e⟩ := befL_pre l (acc ++ [edgeBits acc o.after.toList])
    have e' : befL (o :: l) acc = acc ++ (edgeBits acc o.after.toList :: rest) := by rw [befL, e]; simp
    rw [e'] at hb ⊢
    rw [List.getD_eq_getElem?_getD] at hb
    simp only [Nat.add_zero, List.getElem?_append_right (Nat.le_refl _), Nat.sub_self, List.getElem?_cons_zero, Option.getD_some] at hb
    obtain ⟨e1, h1, h2, h3⟩ := edgeBits_spec hb
    exact ⟨e1, h1, h2, h3.imp id getD_pre⟩
  | o :: l, acc, i + 1, o', j, h, hb => by
    simp at h
    rw [befL] at hb ⊢
    exact befL_spec l (acc ++ [edgeBits acc o.after.toList]) i o' j h (by simpa [Nat.add_assoc, Nat.add_comm 1 i] using hb)
theorem okEdges_spec : ∀ (l : List Oper) (i0 : Nat), okEdges l i0 = true → ∀ i o, l[i]? = some o → ∀ e ∈ o.after.toList, Region.binds .any e = true → e.on < i0 + i
  | [], _, _, _, _, h, _, _, _ => by simp at h
  | o :: l, i0, hk, 0, o', h, e, he, hb => by
    simp at h
    subst h
    simp only [okEdges, Bool.and_eq_true, List.all_eq_true] at hk
    have := hk.1 e he
    simpa [hb] using this
  | o :: l, i0, hk, i + 1, o', h, e, he, hb => by
    simp at h
    simp only [okEdges, Bool.and_eq_true] at hk
    have := okEdges_spec l (i0 + 1) hk.2 i o' h e he hb
    omega
def apartB (bef : List Nat) (x y : Nat × Oper × Log) : Prop := Nat.testBit (bef.getD y.1 0) x.1 = true ∨ disjL x.2.2 y.2.2 = true
/-! ### any order -/
structure Held (P : Program) (φ : Sems) (ops : Array Oper) (bef : List Nat) (listed : Array Bool) (rem : List (Nat × Oper × Log)) (σ σf : St) : Prop where
  size : listed.size = ops.size
  mem : ∀ i o, (∃ L, (i, o, L) ∈ rem) ↔ (ops[i]? = some o ∧ listed.getD i true = false)
  ord : rem.Pairwise fun x y => x.1 < y.1
  apart : rem.Pairwise (apartB bef)
  down : ∀ k, listed.getD k false = true → ∀ j, Nat.testBit (bef.getD k 0) j = true → listed.getD j false = true
  runs : Runs P φ ops σ rem σf
theorem getD_tt {listed : Array Bool} {i : Nat} (h : listed.getD i true = false) (h' : listed.getD i false = true) : False := by
  rw [Array.getD_eq_getD_getElem?] at h h'
  cases hi : listed[i]? with
  | none => simp [hi] at h
  | some b => rw [hi] at h h'; simp at h h'; rw [h] at h'; cases h'
theorem any_sound (hφ : SemsOk P φ) {ops : Array Oper} {Q : Exit → Act → World → Prop} {E : Env} (hE : okEdges ops.toList 0 = true) {σf : St} (hQ : ∀ a w, S E σf a w → Q .normal a w) :
    ∀ (fuel : Nat) (listed : Array Bool) (rem : List (Nat × Oper × Log)) (σ : St) (a : Act) (w : World), Held P φ ops (befL ops.toList []) listed rem σ σf → rem.length = fuel → S E σ a w → wpAny P .any ops Q fuel listed a w := by
  have hready : ∀ {listed rem σ}, Held P φ ops (befL ops.toList []) listed rem σ σf → Region.ready .any ops listed = [] → rem = [] := by
    intro listed rem σ h hr
    match rem, h with
    | [], _ => rfl
    | (i, o, L) :: rem, h =>
      exfalso
      obtain ⟨ho, hu⟩ := (h.mem i o).1 ⟨L, by simp⟩
      have : i ∈ Region.ready .any ops listed := by
        refine mem_ready.2 ⟨hu, o, ho, fun e he hb => ?_⟩
        have hlt := okEdges_spec _ _ hE i o (by simpa using ho) e (by simpa using he) hb
        simp only [Nat.zero_add] at hlt
        have hi : i < ops.size := (Array.getElem?_eq_some_iff.1 ho).1
        have hs : e.on < listed.size := by rw [h.size]; omega
        cases hl : listed.getD e.on false with
        | true => rfl
        | false =>
          exfalso
          have hl' : listed.getD e.on true = false := by
            rw [Array.getD_eq_getD_getElem?, Array.getElem?_eq_getElem hs] at *
            simpa using hl
          have hs' : e.on < ops.size := by omega
          obtain ⟨L', hm⟩ := (h.mem e.on ops[e.on]).2 ⟨Array.getElem?_eq_getElem hs', hl'⟩
          rcases List.mem_cons.1 hm with he | hm
          · have : e.on = i := congrArg (·.1) he
            omega
          · have : i < e.on := List.rel_of_pairwise_cons h.ord hm
            omega
      rw [hr] at this
      cases this
  intro fuel
  induction fuel with
  | zero =>
    intro listed rem σ a w h hl hS
    have : rem = [] := List.eq_nil_of_length_eq_zero hl
    subst this
    refine ⟨?_, hQ a w (by have := h.runs; exact this ▸ hS)⟩
    cases hr : Region.ready .any ops listed with
    | nil => rfl
    | cons i l =>
      have hi : i ∈ Region.ready .any ops listed := by rw [hr]; simp
      obtain ⟨hu, o, ho, _⟩ := mem_ready.1 hi
      obtain ⟨L, hm⟩ := (h.mem i o).2 ⟨ho, hu⟩
      simp at hm
  | succ fuel ih =>
    intro listed rem σ a w h hl hS
    refine ⟨fun hr => ?_, fun i hi => ?_⟩
    · have := hready h hr
      subst this
      simp at hl
    · obtain ⟨hu, o, ho, hall⟩ := mem_ready.1 hi
      obtain ⟨L, hm⟩ := (h.mem i o).2 ⟨ho, hu⟩
      obtain ⟨A, B, hAB⟩ := List.append_of_mem hm
      subst hAB
      have hisz : i < listed.size := by rw [h.size]; exact (Array.getElem?_eq_some_iff.1 ho).1
      have hbits : ∀ j, Nat.testBit ((befL ops.toList []).getD i 0) j = true → listed.getD j false = true := fun j hj => by
        obtain ⟨e, he, hb, hc⟩ := befL_spec ops.toList [] i o j (by simpa using ho) (by simpa using hj)
        have hle := hall e (by simpa using he) hb
        rcases hc with rfl | hc
        · exact hle
        · exact h.down _ hle j hc
      have hap := List.pairwise_append.1 h.apart
      have hor := List.pairwise_append.1 h.ord
      obtain ⟨G, hG, _⟩ := id hS
      obtain ⟨σ1, hrun, hrest⟩ := to_front A σ hG.nd h.runs fun y hy => by
        rcases hap.2.2 y hy (i, o, L) (by simp) with hb | hd
        · exfalso
          obtain ⟨j, oj, Lj⟩ := y
          have h1 := (h.mem j oj).1 ⟨Lj, by simp [hy]⟩
          exact getD_tt h1.2 (hbits j hb)
        · exact hd
      refine oper_sound hφ ho hS hrun fun a' w' hS' => ih (listed.setIfInBounds i true) (A ++ B) σ1 a' w' ?_ (by simp at hl ⊢; omega) hS'
      have hsub : (A ++ B).Sublist (A ++ (i, o, L) :: B) := List.Sublist.append_left (List.sublist_cons_self _ _) _
      refine ⟨by simp [h.size], fun k ok => ⟨fun ⟨Lk, hk⟩ => ?_, fun ⟨h1, h2⟩ => ?_⟩, h.ord.sublist hsub, h.apart.sublist hsub, fun k hk j hj => ?_, hrest⟩
      · have hne : i ≠ k := by
          intro e
          rcases List.mem_append.1 hk with hk | hk
          · have := hor.2.2 _ hk (i, o, L) (by simp)
            simp only at this
            omega
          · have := List.rel_of_pairwise_cons hor.2.1 hk
            simp only at this
            omega
        rw [getD_set_ne true hne]
        exact (h.mem k ok).1 ⟨Lk, hsub.subset hk⟩
      · have hne : i ≠ k := by
          intro e
          subst e
          rw [Array.getD_eq_getD_getElem?] at h2
          simp [hisz] at h2
        rw [getD_set_ne true hne] at h2
        obtain ⟨Lk, hk⟩ := (h.mem k ok).2 ⟨h1, h2⟩
        rcases List.mem_append.1 hk with hk | hk
        · exact ⟨Lk, by simp [hk]⟩
        · rcases List.mem_cons.1 hk with e | hk
          · exact absurd (congrArg (·.1) e).symm hne
          · exact ⟨Lk, by simp [hk]⟩
      · by_cases e : i = k
        · subst e
          exact getD_set_true (hbits j hj)
        · rw [getD_set_ne false e] at hk
          exact getD_set_true (h.down k hk j hj)
/-! ### the text's order, from the operations' own run -/
theorem set_get {σ : St} {r : Nat} {c : Ct} (h : σ.get r = c) : σ.set r c = σ := by
  induction σ with
  | nil => rfl
  | cons x σ ih =>
    obtain ⟨r', c'⟩ := x
    cases hb : Nat.beq r' r with
    | true =>
      simp only [St.get, hb, cond_true] at h
      simp only [St.set, hb, cond_true, h]
    | false =>
      simp only [St.get, hb, cond_false] at h
      simp only [St.set, hb, cond_false, ih h]
theorem splitK_eq {R : Type} (t : Tmp) (σ : St) (K : St → R) : splitK t σ K = K σ := by
  unfold splitK
  split
  · rename_i ver o b h
    cases b with
    | true => simp only [cond_true]; rw [set_get h]
    | false => simp only [cond_false]; rw [set_get h]
  · rfl
theorem guardK_eq {R : Type} (ops : Array Oper) (o : Oper) (σ : St) (K : St → R) : guardK ops o σ K = K σ := by
  unfold guardK
  split
  · rfl
  · split
    · exact splitK_eq _ σ K
    · rfl
theorem opsK_prop {ops : Array Oper} : ∀ (l : List Oper) (i : Nat) (σ : St) (Ls : List (Nat × Log)) (K : St → List (Nat × Log) → Prop), opsK P φ False ops l i σ Ls K →
    ∃ (rem : List (Nat × Oper × Log)) (σf : St), Runs P φ ops σ rem σf ∧ (rem.map fun x => (x.1, x.2.1)) = (l.zipIdx i).map (fun x => (x.2, x.1)) ∧ K σf ((rem.map fun x => (x.1, x.2.2)).reverse ++ Ls)
  | [], i, σ, Ls, K, h => ⟨[], σ, rfl, rfl, h⟩
  | o :: l, i, σ, Ls, K, h => by
    simp only [opsK, guardK_eq] at h
    obtain ⟨_, σ1, L, h1, h2⟩ := (evalK_prop φ (operP P ops o) σ [] _).1 h
    obtain ⟨rem, σf, h3, h4, h5⟩ := opsK_prop l (i + 1) σ1 ((i, L) :: Ls) K h2
    exact ⟨(i, o, L) :: rem, σf, ⟨σ1, h1, h3⟩, by simp [h4], by simpa using h5⟩
theorem okLogs_spec {bef : List Nat} : ∀ (rem : List (Nat × Oper × Log)), okLogs bef ((rem.map fun x => (x.1, x.2.2)).reverse) = true → rem.Pairwise (apartB bef) := by
  intro rem h
  have key : ∀ l : List (Nat × Log), okLogs bef l = true → l.Pairwise fun y x => Nat.testBit (bef.getD y.1 0) x.1 = true ∨ disjL x.2 y.2 = true := by
    intro l
    induction l with
    | nil => intro _; exact .nil
    | cons y l ih =>
      intro h
      obtain ⟨j, L⟩ := y
      simp only [okLogs, Bool.and_eq_true, List.all_eq_true, Bool.or_eq_true] at h
      exact List.pairwise_cons.2 ⟨fun x hx => h.1 x hx, ih h.2⟩
  have := key _ h
  rw [List.pairwise_reverse, List.pairwise_map] at this
  exact this
/-! ### trimming -/
theorem memR_iff (r : Nat) : ∀ l, memR r l = true ↔ r ∈ l
  | [] => by simp [memR]
  | x :: l => by
    by_cases e : x = r
    · subst e; simp [memR, beqT]
    · have e' : ¬ r = x := fun h => e h.symm
      simp [memR, beqF e, e', memR_iff r l]
theorem get_del (τ : St) (r r' : Nat) : (τ.del r).get r' = if r' = r then ⟨z0, []⟩ else τ.get r' := by
  unfold St.del
  induction τ with
  | nil => simp [St.get]
  | cons x τ ih =>
    obtain ⟨r0, c⟩ := x
    by_cases e : r0 = r
    · subst e
      simp only [List.filter_cons, beqT, Bool.not_true, Bool.false_eq_true, if_false, ih]
      by_cases e' : r' = r0
      · simp [e']
      · have e2 : r0 ≠ r' := fun h => e' h.symm
        simp [e', St.get, beqF e2]
    · simp only [List.filter_cons, beqF e, Bool.not_false, if_true]
      by_cases e' : r' = r
      · subst e'
        simp only [St.get, beqF e, cond_false, ih, if_true]
      · simp only [if_neg e', St.get, ih]
theorem keys_del (τ : St) (r x : Nat) : x ∈ (τ.del r).map (·.1) ↔ x ∈ τ.map (·.1) ∧ x ≠ r := by
  unfold St.del
  simp only [List.mem_map, List.mem_filter]
  constructor
  · rintro ⟨y, ⟨h1, h2⟩, rfl⟩
    refine ⟨⟨y, h1, rfl⟩, fun e => ?_⟩
    rw [e, beqT] at h2
    simp at h2
  · rintro ⟨⟨y, h1, rfl⟩, h2⟩
    exact ⟨y, ⟨h1, by simp [beqF h2]⟩, rfl⟩
theorem normL_keys (σ : St) : ∀ (keep : List Nat) (τ : St), (∀ x, x ∈ (normL σ keep τ).map (·.1) → x ∈ τ.map (·.1)) ∧ ((normL σ keep τ).map (·.1)).Nodup
  | [], τ => ⟨fun x h => by simp [normL] at h, by simp [normL]⟩
  | r :: keep, τ => by
    simp only [normL]
    cases hh : τ.has r with
    | false => exact normL_keys σ keep τ
    | true =>
      obtain ⟨h1, h2⟩ := normL_keys σ keep (τ.del r)
      simp only [cond_true, List.map_cons, List.mem_cons, List.nodup_cons]
      refine ⟨fun x hx => ?_, fun hm => ((keys_del _ _ _).1 (h1 _ hm)).2 rfl, h2⟩
      rcases hx with rfl | hx
      · exact (has_iff _ _).1 hh
      · exact ((keys_del _ _ _).1 (h1 _ hx)).1
theorem get_normL (σ : St) (r : Nat) : ∀ (keep : List Nat) (τ : St), (normL σ keep τ).get r = bif memR r keep then ⟨z0, fixRows σ (τ.get r).rows⟩ else ⟨z0, []⟩
  | [], τ => rfl
  | r' :: keep, τ => by
    simp only [normL, memR]
    by_cases e : r' = r
    · subst e
      simp only [beqT, cond_true]
      cases hh : τ.has r' with
      | true => simp only [cond_true, St.get, beqT]
      | false =>
        simp only [cond_false]
        rw [get_normL σ r' keep τ, get_absent _ _ hh]
        cases memR r' keep <;> rfl
    · simp only [beqF e, cond_false]
      have e' : ¬ r = r' := fun h => e h.symm
      cases hh : τ.has r' with
      | true =>
        simp only [cond_true, St.get, beqF e, cond_false]
        rw [get_normL σ r keep (τ.del r'), get_del, if_neg e']
      | false =>
        simp only [cond_false]
        exact get_normL σ r keep τ
theorem get_norm (keep : List Nat) (σ : St) (r : Nat) : (norm keep σ).get r = bif memR r keep then ⟨z0, fixRows σ (σ.get r).rows⟩ else ⟨z0, []⟩ := get_normL σ r keep σ
theorem RelPt.fix {E G} {σ : St} {x : Pt} {v : Value} {w : World} {g : Gh} (h : RelPt E G (fun r => (σ.get r).ver) x v) : RelC E G (fun _ => z0) w g (fixPt σ x) v := by
  cases x with
  | pim m g => exact h
  | ptr r ver p m j k =>
    obtain ⟨b, o, hv, h0, h1, h2⟩ := h
    simp only [fixPt]
    cases hb : Nat.beq ((σ.get r).ver p) ver with
    | true => exact ⟨b, o, hv, h0, Nat.le_refl _, fun _ => h2 (beq_eq hb)⟩
    | false => subst hv; rfl
theorem fixPts_spec {σ : St} : ∀ {l l' : List Pt}, fixPts σ l = some l' → l'.length = l.length ∧ ∀ (i : Nat) y, l'[i]? = some y → ∃ x, l[i]? = some x ∧ fixPt σ x = .pt y
  | [], l', h => by simp [fixPts] at h; subst h; exact ⟨rfl, fun i y hy => by simp at hy⟩
  | x :: l, l', h => by
    simp only [fixPts] at h
    split at h
    · rename_i y l2 h1 h2
      have h := Option.some.inj h
      subst h
      obtain ⟨e, hi⟩ := fixPts_spec h2
      refine ⟨by simp [e], fun i z hz => ?_⟩
      cases i with
      | zero => simp at hz; subst hz; exact ⟨x, rfl, h1⟩
      | succ i => simp at hz; simpa using hi i z hz
    · cases h
theorem RelC.fix {E G} {σ : St} {c : C} {v : Value} {w : World} {g : Gh} (h : RelC E G (fun r => (σ.get r).ver) w g c v) : RelC E G (fun _ => z0) w g (fixC σ c) v := by
  cases c with
  | tr o t => cases o with
    | true => exact h
    | false => cases t <;> exact h
  | dead => exact h
  | pt x => exact RelPt.fix h
  | fn f caps =>
    obtain ⟨vs, h1, h2, h3⟩ := h
    simp only [fixC]
    split
    · rename_i l hl
      obtain ⟨e, hi⟩ := fixPts_spec hl
      refine ⟨vs, h1, h2.trans e.symm, fun i y hy => ?_⟩
      obtain ⟨x, hx, he⟩ := hi i y hy
      obtain ⟨u, hu, hr⟩ := h3 i x hx
      refine ⟨u, hu, ?_⟩
      have := RelPt.fix (w := w) (g := g) hr
      rw [he] at this
      exact this
    · subst h1; rfl
  | ref r ver p m s n =>
    obtain ⟨A, cap, h1, h2, h3, h4, h5⟩ := h
    simp only [fixC]
    cases hb : Nat.beq ((σ.get r).ver p) ver with
    | true => exact ⟨A, cap, h1, h2, h3, Nat.le_refl _, fun _ => h5 (beq_eq hb)⟩
    | false => subst h1; rfl
theorem RelCs.fix {E G} {σ : St} {cs : List C} {vs : Array Value} {w : World} {g : Nat → Gh} (h : RelCs E G (fun r => (σ.get r).ver) w g cs vs) : RelCs E G (fun _ => z0) w g (cs.map (fixC σ)) vs := by
  refine ⟨by simpa using h.1, fun k c hk => ?_⟩
  rw [List.getElem?_map] at hk
  cases hc : cs[k]? with
  | none => rw [hc] at hk; cases hk
  | some c0 =>
    rw [hc] at hk
    have := Option.some.inj hk
    subst this
    obtain ⟨u, hu, hr⟩ := h.2 k c0 hc
    exact ⟨u, hu, hr.fix⟩
theorem RelRow.fix {E G} {σ : St} {row : Row} {v : Value} {w : World} {g : Nat → Gh} (h : RelRow E G (fun r => (σ.get r).ver) w g row v) : RelRow E G (fun _ => z0) w g (row.1, row.2.map (fixC σ)) v := by
  obtain ⟨ag, cs⟩ := row
  cases ag with
  | true => obtain ⟨vs, e, hc⟩ := h; exact ⟨vs, e, hc.fix⟩
  | false => match cs, h with
    | [], hx => exact hx
    | [c], hx => exact RelC.fix hx
theorem RelRows.fix {E G} {σ : St} {rows : List Row} {v : Value} {w : World} {g : Gh} (h : RelRows E G (fun r => (σ.get r).ver) w g rows v) : RelRows E G (fun _ => z0) w g (fixRows σ rows) v := by
  match rows, h with
  | [], _ => trivial
  | [row], hx => exact RelRow.fix (row := row) (g := fun k q => g (0 :: k :: q)) hx
  | r :: r' :: rs, hx =>
    obtain ⟨vs, e, hs, hi⟩ := hx
    refine ⟨vs, e, by simpa using hs, fun i row hr => ?_⟩
    have hr' : (fixRows σ (r :: r' :: rs))[i]? = some row := hr
    unfold fixRows at hr'
    rw [List.getElem?_map] at hr'
    cases hc : (r :: r' :: rs)[i]? with
    | none => rw [hc] at hr'; cases hr'
    | some row0 =>
      rw [hc] at hr'
      have := Option.some.inj hr'
      subst this
      obtain ⟨u, hu, h1⟩ := hi i row0 hc
      exact ⟨u, hu, h1.fix⟩
theorem S.norm {E σ a w} (h : S E σ a w) (keep : List Nat) : S E (norm keep σ) a w := by
  obtain ⟨G, hG, hp⟩ := h
  have hV : (fun r => ((Mach.norm keep σ).get r).ver) = fun _ => z0 := by
    funext r
    rw [get_norm]
    cases memR r keep <;> rfl
  refine ⟨G, ⟨(normL_keys σ keep σ).2, hG.inj, hG.rng, hG.os, hG.tape, hG.output, hG.size, hG.kept, fun t => ?_, fun t => ?_, fun t => ?_, hG.xbox, hG.defers, hG.tm, fun t ht => ?_⟩, hp⟩
  · rw [hV, get_norm]
    cases memR (slot t) keep with
    | true => exact (hG.slots t).fix
    | false => trivial
  · rw [hV, get_norm]
    cases memR (box t) keep with
    | true =>
      refine (hG.boxes t).imp (fun e => by simp [e, fixRows]) fun ⟨row, b, cs, e, h1, h2, h3, h4⟩ => ?_
      exact ⟨(row.1, row.2.map (fixC σ)), b, cs, e, by simp [h1, fixRows], h2, h3, h4.fix⟩
    | false => exact .inl rfl
  · rw [hV, get_norm]
    cases memR (ext t) keep with
    | true => exact (hG.exts t).fix
    | false => trivial
  · refine hG.here t ?_
    rw [has_iff] at *
    exact (normL_keys σ keep σ).1 _ ht
/-! ### a whole region -/
theorem S.drawn {E σ a w} (h : S E σ a w) : S E σ a { w with drawn := w.drawn + 1 } := by
  obtain ⟨G, hG, hp⟩ := h
  exact ⟨G, hG.world rfl rfl rfl (Nat.le_refl _) (fun _ _ => rfl) (fun _ _ _ _ _ => rfl), hp⟩
theorem straight_sound (hφ : SemsOk P φ) {ops : Array Oper} {Q : Exit → Act → World → Prop} {E : Env} {σf : St} (hQ : ∀ a w, S E σf a w → Q .normal a w) :
    ∀ (rem : List (Nat × Oper × Log)) (σ : St) (a : Act) (w : World), (∀ x ∈ rem, ops[x.1]? = some x.2.1) → Runs P φ ops σ rem σf → S E σ a w → wpOps P ops Q (rem.map (·.1)) a w
  | [], σ, a, w, _, h, hS => hQ a w ((show σ = σf from h) ▸ hS)
  | x :: rem, σ, a, w, hm, ⟨σ1, h1, h2⟩, hS => by
    rw [List.map_cons, wpOps_cons]
    exact oper_sound hφ (hm x (by simp)) hS h1 fun a' w' hS' => straight_sound hφ hQ rem σ1 a' w' (fun y hy => hm y (by simp [hy])) h2 hS'
theorem region_sound (hφ : SemsOk P φ) (hm : P.follows .mixedOrders = true) {keep : List Nat} {id : Nat} {ops : Array Oper} {draw : Bool} {E : Env} {σ : St} {K : St → Prop} (h : regionK P φ keep E.nt False ops draw σ K)
    {a : Act} {w : World} (hS : S E σ a w) {Q : Exit → Act → World → Prop} (hQ : ∀ σ' a' w', K σ' → S E σ' a' w' → Q .normal a' w') : (Code.region id ops draw).wp P Q a w := by
  obtain ⟨rem, σf, hr, he, hk⟩ := opsK_prop _ _ _ _ _ h
  simp only [List.append_nil] at hk
  have hidx : ∀ i o, (i, o) ∈ (rem.map fun x => (x.1, x.2.1)) ↔ ops[i]? = some o := fun i o => by
    rw [he]
    simp only [List.mem_map, Prod.exists, Prod.mk.injEq]
    constructor
    · rintro ⟨o', i', h1, rfl, rfl⟩
      have := List.mem_zipIdx_iff_getElem?.1 h1
      simpa using this
    · intro h1
      exact ⟨o, i, List.mem_zipIdx_iff_getElem?.2 (by simpa using h1), rfl, rfl⟩
  have hfst : rem.map (·.1) = List.range ops.size := by
    have : rem.map (·.1) = ((rem.map fun x => (x.1, x.2.1)).map (·.1)) := by rw [List.map_map]; rfl
    rw [this, he, List.map_map]
    have : ((fun x : Nat × Oper => x.1) ∘ fun x : Oper × Nat => (x.2, x.1)) = Prod.snd := rfl
    rw [this, List.zipIdx_map_snd]
    simp [List.range_eq_range']
  cases hd : draw with
  | false =>
    rw [hd] at hk
    simp only [Bool.not_false, Bool.true_or, cond_true] at hk
    refine wp_region ?_
    rw [← hfst]
    exact straight_sound hφ (fun a' w' hS' => hQ _ a' w' hk (hS'.norm keep)) rem _ a w (fun x hx => (hidx _ _).1 (List.mem_map.2 ⟨x, hx, rfl⟩)) hr (hS.prep _)
  | true =>
    rw [hd] at hk
    simp only [Bool.not_true, Bool.false_or] at hk
    cases hg : (okEdges ops.toList 0 && okLogs (befL ops.toList []) (rem.map fun x => (x.1, x.2.2)).reverse) with
    | false => rw [hg] at hk; exact hk.elim
    | true =>
      rw [hg] at hk
      simp only [cond_true] at hk
      simp only [Bool.and_eq_true] at hg
      refine wp_region_any hm ?_
      refine any_sound hφ hg.1 (fun a' w' hS' => hQ _ a' w' hk (hS'.norm keep)) ops.size _ rem _ a _ ⟨by simp, fun i o => ?_, ?_, okLogs_spec _ hg.2, fun k hk => ?_, hr⟩ ?_ ((hS.prep _).drawn)
      · constructor
        · rintro ⟨L, hL⟩
          have h1 := (hidx i o).1 (List.mem_map.2 ⟨_, hL, rfl⟩)
          refine ⟨h1, ?_⟩
          have := (Array.getElem?_eq_some_iff.1 h1).1
          simp [Array.getD_eq_getD_getElem?, this]
        · rintro ⟨h1, _⟩
          obtain ⟨⟨i', o', L⟩, hx, e⟩ := List.mem_map.1 ((hidx i o).2 h1)
          simp only [Prod.mk.injEq] at e
          obtain ⟨rfl, rfl⟩ := e
          exact ⟨L, hx⟩
      · have : (rem.map (·.1)).Pairwise (· < ·) := by rw [hfst]; exact List.pairwise_lt_range
        exact List.pairwise_map.1 this
      · exfalso
        rw [Array.getD_eq_getD_getElem?] at hk
        by_cases h1 : k < ops.size
        · simp [h1] at hk
        · simp [h1] at hk
      · have := congrArg List.length hfst
        simpa using this
end
end Go.Mach
