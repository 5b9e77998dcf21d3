/- Typed data as trees, tables of meanings, places in code. Conditions: none (definitions, lemmas). -/
import Derived.Test.YtamalkcgebjphaaMc
namespace Go.Mach
/-! ### tables -/
def tabS : List (Nat × (List Row → Bool × List Row)) → Sems
  | [], _, _ => (false, [])
  | (g, e) :: l, f, as => bif Nat.beq g f then e as else tabS l f as
theorem tabS_nil {P : Program} : SemsOk P (tabS []) := fun f args h => by cases h
theorem tabS_cons {P : Program} {g : Nat} {e : List Row → Bool × List Row} {l} (h : ∀ as, (e as).1 = true → Sound P g as (e as).2) (hl : SemsOk P (tabS l)) : SemsOk P (tabS ((g, e) :: l)) := fun f args h1 => by
  simp only [tabS] at h1 ⊢
  cases hb : Nat.beq g f with
  | true =>
    rw [hb] at h1
    simp only [cond_true] at h1 ⊢
    rw [← beq_eq hb]
    exact h args h1
  | false =>
    rw [hb] at h1
    exact hl f args h1
open Classical in
/-- Whether rows are what a typed argument is told as. -/
noncomputable def dom {α : Type} (ok : α → Prop) (ea : α → List Row) (as : List Row) : Bool := decide (∃ x, ok x ∧ ea x = as)
open Classical in
noncomputable def inv {α : Type} [Inhabited α] (ok : α → Prop) (ea : α → List Row) (as : List Row) : α := if h : ∃ x, ok x ∧ ea x = as then Classical.choose h else default
theorem dom_ea {α : Type} {ok : α → Prop} {ea : α → List Row} {x : α} (h : ok x) : dom ok ea (ea x) = true := by
  unfold dom
  exact @decide_eq_true _ (Classical.propDecidable _) ⟨x, h, rfl⟩
theorem inv_ea {α : Type} [Inhabited α] {ok : α → Prop} {ea : α → List Row} (hi : ∀ x y, ea x = ea y → x = y) {x : α} (h : ok x) : inv ok ea (ea x) = x := by
  unfold inv
  have : ∃ y, ok y ∧ ea y = ea x := ⟨x, h, rfl⟩
  rw [dif_pos this]
  exact hi _ _ (Classical.choose_spec this).2
noncomputable def ent {α β : Type} [Inhabited α] (ok : α → Prop) (ea : α → List Row) (er : β → List Row) (F : α → β) (as : List Row) : Bool × List Row := (dom ok ea as, er (F (inv ok ea as)))
theorem ent_ok {P : Program} {g : Nat} {α β : Type} [Inhabited α] {ok : α → Prop} {ea : α → List Row} {er : β → List Row} {F : α → β} (hi : ∀ x y, ea x = ea y → x = y) (h : ∀ x, ok x → Sound P g (ea x) (er (F x))) :
    ∀ as, (ent ok ea er F as).1 = true → Sound P g as (ent ok ea er F as).2 := by
  intro as h1
  have h2 : ∃ x, ok x ∧ ea x = as := @of_decide_eq_true _ (Classical.propDecidable _) h1
  obtain ⟨x, hx, rfl⟩ := h2
  show Sound P g (ea x) (er (F (inv ok ea (ea x))))
  rw [inv_ea hi hx]
  exact h x hx
/-! ### places in code -/
def sub : Code → List Nat → Code
  | c, [] => c
  | .seq a _, 0 :: p => sub a p
  | .seq _ b, 1 :: p => sub b p
  | .block _ c, 0 :: p => sub c p
  | .loop c, 0 :: p => sub c p
  | .cond _ a _, 0 :: p => sub a p
  | .cond _ _ b, 1 :: p => sub b p
  | _, _ => .skip
section
variable {R : Type} (P : Program) (φ : Sems) (keep : List Nat) (nt : Nat) (z : R) (n : Nat)
/-- What follows a place in code (ms: the rounds that are left in the loops on the way). -/
def cont : Code → List Nat → List Nat → (Ex → St → R) → Ex → St → R
  | _, [], _, K => K
  | .seq a b, 0 :: p, ms, K => cont a p ms fun e σ => match e with
    | .normal => exec P φ keep nt z n b σ K
    | e => K e σ
  | .seq _ b, 1 :: p, ms, K => cont b p ms K
  | .block i c, 0 :: p, ms, K => cont c p ms fun e σ => match e with
    | .exit j => bif Nat.beq j i then K .normal σ else K (.exit j) σ
    | e => K e σ
  | .loop c, 0 :: p, m :: ms, K => cont c p ms fun e σ => match e with
    | .normal => loopK z (exec P φ keep nt z n c) m σ K
    | e => K e σ
  | .cond _ a _, 0 :: p, ms, K => cont a p ms K
  | .cond _ _ b, 1 :: p, ms, K => cont b p ms K
  | _, _, _, _ => fun _ _ => z
end
/-- The loop at a place of a function. -/
def loopAt (P : Program) (φ : Sems) (fn : Func) (p : List Nat) (n m : Nat) (σ : St) (K : Ex → St → Option (List Row)) : Option (List Row) :=
  loopK none (exec P φ (keepOf fn) fn.ntmps none n (sub (bodyOf fn) (p ++ [0]))) m σ K
def roundAt (P : Program) (φ : Sems) (fn : Func) (p : List Nat) (n : Nat) (σ : St) (K : Ex → St → Option (List Row)) : Option (List Row) :=
  exec P φ (keepOf fn) fn.ntmps none n (sub (bodyOf fn) (p ++ [0])) σ K
theorem loopAt_succ (P : Program) (φ : Sems) (fn : Func) (p : List Nat) (n m : Nat) (σ : St) (K : Ex → St → Option (List Row)) :
    loopAt P φ fn p n (m + 1) σ K = roundAt P φ fn p n σ fun e σ => match e with
      | .normal => loopAt P φ fn p n m σ K
      | e => K e σ := rfl
def lastK (P : Program) (φ : Sems) (fn : Func) : Ex → St → Option (List Row) := fun e σ => match e with
  | .exit _ => none
  | _ => resultsK P φ none fn σ some
def contAt (P : Program) (φ : Sems) (fn : Func) (p ms : List Nat) (n : Nat) : Ex → St → Option (List Row) :=
  cont P φ (keepOf fn) fn.ntmps none n (bodyOf fn) p ms (lastK P φ fn)
/-! ### typed data -/
def atL {α : Type} (row : α → List T) (l : List α) (j k : Nat) : T := match l[j]? with
  | some x => (row x).getD k .hole
  | none => .hole
def eL {α : Type} (m : Nat) (row : α → List T) (l : List α) : T := .arr m l.length (atL row l)
theorem atL_eq {α : Type} {row : α → List T} {l : List α} {j k : Nat} {x : α} (h : l[j]? = some x) : atL row l j k = (row x).getD k .hole := by simp only [atL, h]
def rowI (x : Int) : List T := [.int .i64 x]
def rowB (x : Int) : List T := [.int .u8 x]
abbrev eInts (l : List Int) : T := eL 1 rowI l
def aT (t : T) : Row := (false, [.tr false t])
def rT (t : T) : Row := (false, [.tr true t])
theorem eL_fn {α : Type} {m : Nat} {row : α → List T} {l : List α} {j k : Nat} {x : α} (h : l[j]? = some x) : (eL m row l).fn j k = (row x).getD k .hole := by simp only [eL, T.fn, atL, h]
theorem eL_ext {α : Type} {m : Nat} {row : α → List T} {l : List α} {n : Nat} {f : Nat → Nat → T} (hn : n = l.length) (h : ∀ j k, f j k = match l[j]? with | some x => (row x).getD k .hole | none => .hole) : T.arr m n f = eL m row l := by
  subst hn
  unfold eL
  congr 1
  funext j k
  simp only [atL]
  exact h j k
theorem eL_inj {α : Type} {m : Nat} {row : α → List T} (hr : ∀ x y, (∀ k, (row x).getD k .hole = (row y).getD k .hole) → x = y) {l l' : List α} (h : eL m row l = eL m row l') : l = l' := by
  unfold eL at h
  injection h with h1 h2 h3
  refine List.ext_getElem h2 fun i hi hi' => hr _ _ fun k => ?_
  have := congrFun (congrFun h3 i) k
  simpa [atL, List.getElem?_eq_getElem hi, List.getElem?_eq_getElem hi'] using this
theorem eInts_inj {l l' : List Int} (h : eInts l = eInts l') : l = l' := eL_inj (fun x y h => by simpa [rowI] using h 0) h
theorem cut_eL {α : Type} {m : Nat} {row : α → List T} {l : List α} {s n : Nat} (h : s + n ≤ l.length) : T.arr m n (cutT s n (eL m row l).fn) = eL m row ((l.drop s).take n) := by
  refine eL_ext (by simp; omega) fun j k => ?_
  simp only [cutT, eL, T.fn, atL]
  by_cases hj : j < n
  · have : Nat.blt j n = true := by rw [Nat.blt_eq]; exact hj
    simp only [this, cond_true, List.getElem?_take, hj, if_true, List.getElem?_drop]
  · have : Nat.blt j n = false := by cases hb : Nat.blt j n with | false => rfl | true => rw [Nat.blt_eq] at hb; exact absurd hb hj
    simp only [this, cond_false, List.getElem?_take, hj, if_false]
theorem set_eL {α : Type} {m : Nat} {row : α → List T} {l : List α} {j k : Nat} {u : T} {x y : α} (hx : l[j]? = some x) (hr : ∀ k', (row y).getD k' .hole = if k' = k then u else (row x).getD k' .hole) :
    T.set (eL m row l) [j, k] u = eL m row (l.set j y) := by
  refine eL_ext (by simp) fun j' k' => ?_
  have hlt : j < l.length := (List.getElem?_eq_some_iff.1 hx).1
  by_cases hj : j' = j
  · subst hj
    rw [List.getElem?_set_self hlt]
    simp only [setF, hr, beqT, Bool.true_and]
    by_cases hk : k' = k
    · subst hk; simp only [beqT, cond_true, if_true, T.set]
    · simp only [beqF hk, cond_false, hk, if_false, atL, hx]
  · rw [List.getElem?_set_ne (fun e => hj e.symm)]
    simp only [setF, beqF hj, Bool.false_and, cond_false, atL]
theorem set_eInts {l : List Int} {j : Nat} {x : Int} (h : j < l.length) : T.set (eInts l) [j, 0] (.int .i64 x) = eInts (l.set j x) :=
  set_eL (List.getElem?_eq_getElem h) fun k' => by cases k' <;> simp [rowI]
end Go.Mach
