/- A function's code, statement by statement; a call whose result is told by a typed value. Conditions: none (definitions, lemmas). -/
import Derived.Test.YtkbhcdenfigpoaaTe
set_option linter.all false
namespace Go.Mach
open Go
/-- A call of a typed entry: behind it goes on what its value says. -/
noncomputable def entK {α β R : Type} [Inhabited α] (ok : α → Prop) (ea : α → List Arg) (F : α → β) (ag : List Arg) (K : β → Option R) : Option R :=
  bif dom ok ea ag then K (F (inv ok ea ag)) else none
theorem entK_ea {α β R : Type} [Inhabited α] {ok : α → Prop} {ea : α → List Arg} {F : α → β} (hi : ∀ x y, ea x = ea y → x = y) {x : α} (h : ok x) (K : β → Option R) : entK ok ea F (ea x) K = K (F x) := by
  unfold entK
  rw [dom_ea h, inv_ea hi h]
  rfl
theorem entK_of {α β R : Type} [Inhabited α] {ok : α → Prop} {ea : α → List Arg} {F : α → β} {ag : List Arg} {x : α} (h1 : dom ok ea ag = true) (h2 : inv ok ea ag = x) (K : β → Option R) : entK ok ea F ag K = K (F x) := by
  unfold entK
  rw [h1, h2]
  rfl
/-- The code at a place. -/
def atP (P : Program) (φ : Sems) (kp : List (Nat × List Nat)) (fn : Func) (p : List Nat) (n : Nat) (σ : St) (K : Ex → St → Res) : Res :=
  exec P φ (kpOf kp) fn.ntmps none n (sub (bodyOf fn) p) σ K
/-- What follows a statement. -/
def nextP (P : Program) (φ : Sems) (kp : List (Nat × List Nat)) (fn : Func) (p : List Nat) (n : Nat) (K : Ex → St → Res) : Ex → St → Res := fun e σ => match e with
  | .normal => atP P φ kp fn p n σ K
  | e => K e σ
def isSeq : Code → Bool
  | .seq _ _ => true
  | _ => false
theorem sub_seq : ∀ (p : List Nat) (c : Code), isSeq (sub c p) = true → sub c p = .seq (sub c (p ++ [0])) (sub c (p ++ [1]))
  | [], c, h => by
    cases c <;> simp [sub, isSeq] at h
    simp only [List.nil_append, sub]
  | i :: p, c, h => by
    cases c with
    | seq a b =>
      match i with
      | 0 => simp only [sub, List.cons_append] at h ⊢; exact sub_seq p a h
      | 1 => simp only [sub, List.cons_append] at h ⊢; exact sub_seq p b h
      | i + 2 => simp [sub, isSeq] at h
    | block j a =>
      match i with
      | 0 => simp only [sub, List.cons_append] at h ⊢; exact sub_seq p a h
      | i + 1 => simp [sub, isSeq] at h
    | loop a =>
      match i with
      | 0 => simp only [sub, List.cons_append] at h ⊢; exact sub_seq p a h
      | i + 1 => simp [sub, isSeq] at h
    | cond _ a b =>
      match i with
      | 0 => simp only [sub, List.cons_append] at h ⊢; exact sub_seq p a h
      | 1 => simp only [sub, List.cons_append] at h ⊢; exact sub_seq p b h
      | i + 2 => simp [sub, isSeq] at h
    | _ => simp [sub, isSeq] at h
theorem atP_seq {P : Program} {φ : Sems} {kp : List (Nat × List Nat)} {fn : Func} {p q0 q1 : List Nat} {n : Nat} (h : isSeq (sub (bodyOf fn) p) = true) (h0 : p ++ [0] = q0) (h1 : p ++ [1] = q1) (σ : St) (K : Ex → St → Res) :
    atP P φ kp fn p n σ K = atP P φ kp fn q0 n σ (nextP P φ kp fn q1 n K) := by
  subst h0
  subst h1
  unfold atP
  rw [sub_seq p _ h]
  rfl
theorem nextP_n (P : Program) (φ : Sems) (kp : List (Nat × List Nat)) (fn : Func) (p : List Nat) (n : Nat) (K : Ex → St → Res) (σ : St) : nextP P φ kp fn p n K .normal σ = atP P φ kp fn p n σ K := rfl
theorem nextP_r (P : Program) (φ : Sems) (kp : List (Nat × List Nat)) (fn : Func) (p : List Nat) (n : Nat) (K : Ex → St → Res) (σ : St) : nextP P φ kp fn p n K .ret σ = K .ret σ := rfl
theorem body_at (P : Program) (φ : Sems) (kp : List (Nat × List Nat)) (n : Nat) (fn : Func) (args : List Arg) (h : (Nat.beq args.length (fn.params.size + fn.nfree) && Nat.ble args.length fn.ntmps) = true) :
    body P φ kp n fn args = atP P φ kp fn [] n (initA fn.ntmps 0 args) (lastK P φ fn (args.map (·.1))) := by
  unfold body atP
  rw [h]
  simp only [cond_true, sub]
  rfl
end Go.Mach
