/- Typed data as trees, tables of meanings, places in code. Conditions: none (definitions, lemmas). -/
import Derived.Test.YtkbhcdenfigpoaaN6
set_option linter.all false
namespace Go.Mach
/-! ### tables -/
structure Ent where
  md : List Nat
  run : List Arg → CallK
  det : ∀ as, DetK (run as)
def tabM : List (Nat × Ent) → FuncId → List Nat
  | [], _ => []
  | (g, e) :: l, f => bif Nat.beq g f then e.md else tabM l f
def tabF : List (Nat × Ent) → FuncId → List Arg → CallK
  | [], _, _ => fun _ z _ => z
  | (g, e) :: l, f, as => bif Nat.beq g f then e.run as else tabF l f as
theorem tabF_det : ∀ (l : List (Nat × Ent)) f as, DetK (tabF l f as)
  | [], _, _ => .inl fun _ _ _ => rfl
  | (g, e) :: l, f, as => by
    unfold tabF
    cases Nat.beq g f with
    | true => exact e.det as
    | false => exact tabF_det l f as
def tabS (l : List (Nat × Ent)) : Sems := ⟨tabM l, tabF l, tabF_det l⟩
def EntOk (P : Program) (g : Nat) (e : Ent) : Prop := ∀ as rs outs, (∀ R z K, e.run as R z K = K rs outs) → Sound P g as rs outs
theorem tabS_nil {P : Program} : SemsOk P (tabS []) := fun f args rs outs h => by
  have := h Bool false fun _ _ => true
  cases this
theorem tabS_cons {P : Program} {g : Nat} {e : Ent} {l} (h : EntOk P g e) (hl : SemsOk P (tabS l)) : SemsOk P (tabS ((g, e) :: l)) := fun f args rs outs h1 => by
  simp only [tabS, tabF] at h1
  cases hb : Nat.beq g f with
  | true =>
    rw [hb] at h1
    rw [← beq_eq hb]
    exact h args rs outs h1
  | false =>
    rw [hb] at h1
    exact hl f args rs outs h1
/-- A callee whose domain and results are told. -/
def mkE (md : List Nat) (d : List Arg → Bool) (g : List Arg → List Row × List Row) : Ent where
  md := md
  run := fun as _ z K => bif d as then K (g as).1 (g as).2 else z
  det := fun as => by
    cases h : d as with
    | true => exact .inr ⟨(g as).1, (g as).2, fun _ _ _ => by simp [h]⟩
    | false => exact .inl fun _ _ _ => by simp [h]
theorem mkE_ok {P : Program} {g0 : Nat} {md d g} (h : ∀ as, d as = true → Sound P g0 as (g as).1 (g as).2) : EntOk P g0 (mkE md d g) := fun as rs outs h1 => by
  cases hd : d as with
  | false =>
    have := h1 Bool false fun _ _ => true
    simp [mkE, hd] at this
  | true =>
    have h2 := h1 (List Row × List Row) ([], []) fun a b => (a, b)
    simp only [mkE, hd, cond_true, Prod.mk.injEq] at h2
    rw [← h2.1, ← h2.2]
    exact h as hd
/-- A callee that is run where it is called. -/
def inl (md : List Nat) (P : Program) (φ : Sems) (kp : List (Nat × List Nat)) (n : Nat) (fn : Func) : Ent where
  md := md
  run := fun args R z K => bif Nat.beq args.length (fn.params.size + fn.nfree) && Nat.ble args.length fn.ntmps then
    exec P φ (kpOf kp) fn.ntmps z n (bodyOf fn) (initA fn.ntmps 0 args) fun e σ => match e with
      | .exit _ => z
      | _ => resultsK P φ z fn (args.map (·.1)) σ K
    else z
  det := fun args => by
    have key : ∀ (R : Type) (z : R) (K : List Row → List Row → R), (bif Nat.beq args.length (fn.params.size + fn.nfree) && Nat.ble args.length fn.ntmps then
      exec P φ (kpOf kp) fn.ntmps z n (bodyOf fn) (initA fn.ntmps 0 args) fun e σ => match e with
        | .exit _ => z
        | _ => resultsK P φ z fn (args.map (·.1)) σ K
      else z) = match body P φ kp n fn args with | some r => K r.1 r.2 | none => z := by
      intro R z K
      have hres : ∀ σ, resultsK P φ z fn (args.map (·.1)) σ K = match resultsK P φ none fn (args.map (·.1)) σ (fun rows outs => some (rows, outs)) with | some r => K r.1 r.2 | none => z := fun σ => by
        unfold resultsK
        exact (evalK_nat φ (fun o : Option (List Row × List Row) => match o with | some r => K r.1 r.2 | none => z) none z rfl _ σ [] fun (r : List Row × List Row) _ _ => some (r.1, r.2)).symm
      unfold body
      cases (Nat.beq args.length (fn.params.size + fn.nfree) && Nat.ble args.length fn.ntmps) with
      | false => rfl
      | true =>
        have := exec_nat (P := P) (φ := φ) (fun o : Option (List Row × List Row) => match o with | some r => K r.1 r.2 | none => z) (z := none) (z' := z) rfl (kpOf kp) fn.ntmps n (bodyOf fn) (initA fn.ntmps 0 args) fun e σ => match e with
          | .exit _ => none
          | _ => resultsK P φ none fn (args.map (·.1)) σ fun rows outs => some (rows, outs)
        simp only [cond_true]
        refine Eq.trans ?_ this.symm
        congr 1
        funext e σ
        cases e with
        | exit i => rfl
        | normal => exact hres σ
        | ret => exact hres σ
    cases hb : body P φ kp n fn args with
    | none => exact .inl fun R z K => (key R z K).trans (by rw [hb])
    | some r => exact .inr ⟨r.1, r.2, fun R z K => (key R z K).trans (by rw [hb])⟩
theorem inl_ok {P : Program} {φ : Sems} (hφ : SemsOk P φ) (hm : P.follows .mixedOrders = true) {md kp n f} {fn : Func} (hf : P.funcs[f]? = some fn) {c : Code} (hc : fn.body = some c) (hN : fn.name ≠ "runtime.NumGoroutine") : EntOk P f (inl md P φ kp n fn) := fun as rs outs h => by
  refine body_sound hφ hm (kp := kp) (n := n) hf hc ?_ hN
  have := h (Option (List Row × List Row)) none fun a b => some (a, b)
  exact this
open Classical in
/-- Whether rows are what a typed argument is told as. -/
noncomputable def dom {α : Type} (ok : α → Prop) (ea : α → List Arg) (as : List Arg) : Bool := decide (∃ x, ok x ∧ ea x = as)
open Classical in
noncomputable def inv {α : Type} [Inhabited α] (ok : α → Prop) (ea : α → List Arg) (as : List Arg) : α := if h : ∃ x, ok x ∧ ea x = as then Classical.choose h else default
theorem dom_ea {α : Type} {ok : α → Prop} {ea : α → List Arg} {x : α} (h : ok x) : dom ok ea (ea x) = true := by
  unfold dom
  exact @decide_eq_true _ (Classical.propDecidable _) ⟨x, h, rfl⟩
theorem inv_ea {α : Type} [Inhabited α] {ok : α → Prop} {ea : α → List Arg} (hi : ∀ x y, ea x = ea y → x = y) {x : α} (h : ok x) : inv ok ea (ea x) = x := by
  unfold inv
  have : ∃ y, ok y ∧ ea y = ea x := ⟨x, h, rfl⟩
  rw [dif_pos this]
  exact hi _ _ (Classical.choose_spec this).2
noncomputable def ent {α β : Type} [Inhabited α] (md : List Nat) (ok : α → Prop) (ea : α → List Arg) (er : β → List Row × List Row) (F : α → β) : Ent := mkE md (dom ok ea) fun as => er (F (inv ok ea as))
theorem ent_ok {P : Program} {g : Nat} {α β : Type} [Inhabited α] {md : List Nat} {ok : α → Prop} {ea : α → List Arg} {er : β → List Row × List Row} {F : α → β} (hi : ∀ x y, ea x = ea y → x = y) (h : ∀ x, ok x → Sound P g (ea x) (er (F x)).1 (er (F x)).2) :
    EntOk P g (ent md ok ea er F) := mkE_ok fun as h1 => by
  have h2 : ∃ x, ok x ∧ ea x = as := @of_decide_eq_true _ (Classical.propDecidable _) h1
  obtain ⟨x, hx, rfl⟩ := h2
  rw [inv_ea hi hx]
  exact h x hx
/-! ### places in code -/
def sub : Code → List Nat → Code
  | c, [] => c
  | .seq a _, 0 :: p => sub a p
  | .seq _ b, 1 :: p => sub b p
  | .block _ c, 0 :: p => sub c p
  | .loop c, 0 :: p => sub c p
  | .cond _ a _, 0 :: p => sub a p
  | .cond _ _ b, 1 :: p => sub b p
  | _, _ => .skip
section
variable {R : Type} (P : Program) (φ : Sems) (kp : Nat → List Nat) (nt : Nat) (z : R) (n : Nat)
/-- What follows a place in code (ms: the rounds that are left in the loops on the way). -/
def cont : Code → List Nat → List Nat → (Ex → St → R) → Ex → St → R
  | _, [], _, K => K
  | .seq a b, 0 :: p, ms, K => cont a p ms fun e σ => match e with
    | .normal => exec P φ kp nt z n b σ K
    | e => K e σ
  | .seq _ b, 1 :: p, ms, K => cont b p ms K
  | .block i c, 0 :: p, ms, K => cont c p ms fun e σ => match e with
    | .exit j => bif Nat.beq j i then K .normal σ else K (.exit j) σ
    | e => K e σ
  | .loop c, 0 :: p, m :: ms, K => cont c p ms fun e σ => match e with
    | .normal => loopK z (exec P φ kp nt z n c) m σ K
    | e => K e σ
  | .cond _ a _, 0 :: p, ms, K => cont a p ms K
  | .cond _ _ b, 1 :: p, ms, K => cont b p ms K
  | _, _, _, _ => fun _ _ => z
end
abbrev Res := Option (List Row × List Row)
/-- The loop at a place of a function. -/
def loopAt (P : Program) (φ : Sems) (kp : List (Nat × List Nat)) (fn : Func) (p : List Nat) (n m : Nat) (σ : St) (K : Ex → St → Res) : Res :=
  loopK none (exec P φ (kpOf kp) fn.ntmps none n (sub (bodyOf fn) (p ++ [0]))) m σ K
def roundAt (P : Program) (φ : Sems) (kp : List (Nat × List Nat)) (fn : Func) (p : List Nat) (n : Nat) (σ : St) (K : Ex → St → Res) : Res :=
  exec P φ (kpOf kp) fn.ntmps none n (sub (bodyOf fn) (p ++ [0])) σ K
theorem loopAt_succ (P : Program) (φ : Sems) (kp : List (Nat × List Nat)) (fn : Func) (p : List Nat) (n m : Nat) (σ : St) (K : Ex → St → Res) :
    loopAt P φ kp fn p n (m + 1) σ K = roundAt P φ kp fn p n σ fun e σ => match e with
      | .normal => loopAt P φ kp fn p n m σ K
      | e => K e σ := rfl
def lastK (P : Program) (φ : Sems) (fn : Func) (ts : List Nat) : Ex → St → Res := fun e σ => match e with
  | .exit _ => none
  | _ => resultsK P φ none fn ts σ fun rows outs => some (rows, outs)
/-- What follows a place in a function's code (ts: its arguments' kinds). -/
def contAt (P : Program) (φ : Sems) (kp : List (Nat × List Nat)) (fn : Func) (ts p ms : List Nat) (n : Nat) : Ex → St → Res :=
  cont P φ (kpOf kp) fn.ntmps none n (bodyOf fn) p ms (lastK P φ fn ts)
/-- What follows a place in a loop's round. -/
def contIn (P : Program) (φ : Sems) (kp : List (Nat × List Nat)) (fn : Func) (q p : List Nat) (n : Nat) (K : Ex → St → Res) : Ex → St → Res :=
  cont P φ (kpOf kp) fn.ntmps none n (sub (bodyOf fn) (q ++ [0])) p [] K
/-- A test that must hold. -/
def gd {α : Type} (b : Bool) (x : Option α) : Option α := bif b then x else none
theorem gd_t {α : Type} {b : Bool} {x : Option α} (h : b = true) : gd b x = x := by rw [h]; rfl
/-! ### walking a list -/
def foldS {α A B : Type} (f : Nat → A → α → A ⊕ B) : Nat → List α → A → A ⊕ B
  | _, [], a => .inl a
  | i, x :: l, a => match f i a x with
    | .inl a' => foldS f (i + 1) l a'
    | .inr b => .inr b
/-- A loop that walks a list from its i-th element on, with a state 'a'; it ends behind the list or before. -/
theorem trav {P : Program} {φ : Sems} {kp : List (Nat × List Nat)} {fn : Func} {p : List Nat} {n : Nat} {K : Ex → St → Res} {α A B : Type} (l : List α) (st : Nat → A → St) (f : Nat → A → α → A ⊕ B) (ok : Nat → A → Prop)
    (ej : Nat) (es : A → St) (oe : B → Option Nat) (os : B → St)
    (hr : ∀ i a x (K : Ex → St → Res), l[i]? = some x → ok i a → roundAt P φ kp fn p n (st i a) K = match f i a x with
      | .inl a' => K .normal (st (i + 1) a')
      | .inr b => K (match oe b with | some j => .exit j | none => .ret) (os b))
    (hok : ∀ i a x a', l[i]? = some x → ok i a → f i a x = .inl a' → ok (i + 1) a')
    (he : ∀ a (K : Ex → St → Res), ok l.length a → roundAt P φ kp fn p n (st l.length a) K = K (.exit ej) (es a)) :
    ∀ (k i : Nat) (a : A) (m : Nat), i + k = l.length → ok i a → loopAt P φ kp fn p n (k + 1 + m) (st i a) K = match foldS f i (l.drop i) a with
      | .inl a' => K (.exit ej) (es a')
      | .inr b => K (match oe b with | some j => .exit j | none => .ret) (os b) := by
  intro k
  induction k with
  | zero =>
    intro i a m hi ha
    have e : 0 + 1 + m = m + 1 := by omega
    have e2 : i = l.length := by omega
    subst e2
    rw [e, loopAt_succ, he a _ ha, List.drop_length]
    rfl
  | succ k ih =>
    intro i a m hi ha
    have hlt : i < l.length := by omega
    have e : k + 1 + 1 + m = (k + 1 + m) + 1 := by omega
    have hx := List.getElem?_eq_getElem hlt
    rw [e, loopAt_succ, hr i a _ _ hx ha, List.drop_eq_getElem_cons hlt]
    simp only [foldS]
    cases hf : f i a l[i] with
    | inl a' =>
      simp only
      exact ih (i + 1) a' m (by omega) (hok i a _ a' hx ha hf)
    | inr b =>
      simp only
      cases oe b <;> rfl
/-! ### typed data -/
def atL {α : Type} (row : α → List T) (l : List α) (j k : Nat) : T := match l[j]? with
  | some x => (row x).getD k .hole
  | none => .hole
def eL {α : Type} (m : Nat) (row : α → List T) (l : List α) : T := .arr m l.length (atL row l)
theorem atL_eq {α : Type} {row : α → List T} {l : List α} {j k : Nat} {x : α} (h : l[j]? = some x) : atL row l j k = (row x).getD k .hole := by simp only [atL, h]
def rowI (x : Int) : List T := [.int .i64 x]

abbrev eInts (l : List Int) : T := eL 1 rowI l


theorem eL_fn {α : Type} {m : Nat} {row : α → List T} {l : List α} {j k : Nat} {x : α} (h : l[j]? = some x) : (eL m row l).fn j k = (row x).getD k .hole := by simp only [eL, T.fn, atL, h]
theorem eL_ext {α : Type} {m : Nat} {row : α → List T} {l : List α} {n : Nat} {f : Nat → Nat → T} (hn : n = l.length) (h : ∀ j k, f j k = match l[j]? with | some x => (row x).getD k .hole | none => .hole) : T.arr m n f = eL m row l := by
  subst hn
  unfold eL
  congr 1
  funext j k
  simp only [atL]
  exact h j k
theorem eL_inj {α : Type} {m : Nat} {row : α → List T} (hr : ∀ x y, (∀ k, (row x).getD k .hole = (row y).getD k .hole) → x = y) {l l' : List α} (h : eL m row l = eL m row l') : l = l' := by
  unfold eL at h
  injection h with h1 h2 h3
  refine List.ext_getElem h2 fun i hi hi' => hr _ _ fun k => ?_
  have := congrFun (congrFun h3 i) k
  simpa [atL, List.getElem?_eq_getElem hi, List.getElem?_eq_getElem hi'] using this
theorem eInts_inj {l l' : List Int} (h : eInts l = eInts l') : l = l' := eL_inj (fun x y h => by simpa [rowI] using h 0) h
theorem cut_eL {α : Type} {m : Nat} {row : α → List T} {l : List α} {s n : Nat} (h : s + n ≤ l.length) : T.arr m n (cutT s n (eL m row l).fn) = eL m row ((l.drop s).take n) := by
  refine eL_ext (by simp; omega) fun j k => ?_
  simp only [cutT, eL, T.fn, atL]
  by_cases hj : j < n
  · have : Nat.blt j n = true := by rw [Nat.blt_eq]; exact hj
    simp only [this, cond_true, List.getElem?_take, hj, if_true, List.getElem?_drop]
  · have : Nat.blt j n = false := by cases hb : Nat.blt j n with | false => rfl | true => rw [Nat.blt_eq] at hb; exact absurd hb hj
    simp only [this, cond_false, List.getElem?_take, hj, if_false]
theorem set_eL {α : Type} {m : Nat} {row : α → List T} {l : List α} {j k : Nat} {u : T} {x y : α} (hx : l[j]? = some x) (hr : ∀ k', (row y).getD k' .hole = if k' = k then u else (row x).getD k' .hole) :
    T.set (eL m row l) [j, k] u = eL m row (l.set j y) := by
  refine eL_ext (by simp) fun j' k' => ?_
  have hlt : j < l.length := (List.getElem?_eq_some_iff.1 hx).1
  by_cases hj : j' = j
  · subst hj
    rw [List.getElem?_set_self hlt]
    simp only [setF, hr, beqT, Bool.true_and]
    by_cases hk : k' = k
    · subst hk; simp only [beqT, cond_true, if_true, T.set]
    · simp only [beqF hk, cond_false, hk, if_false, atL, hx]
  · rw [List.getElem?_set_ne (fun e => hj e.symm)]
    simp only [setF, beqF hj, Bool.false_and, cond_false, atL]
theorem set_eInts {l : List Int} {j : Nat} {x : Int} (h : j < l.length) : T.set (eInts l) [j, 0] (.int .i64 x) = eInts (l.set j x) :=
  set_eL (List.getElem?_eq_getElem h) fun k' => by cases k' <;> simp [rowI]
end Go.Mach
