/- Small functions of the laws: copies and comparisons of number slices. Conditions: none. -/
import Derived.Test.YtamalkcgebjphaaMd
import Derived.Test.YtamalkcgebjphaaProg
import Derived.KernelRfl
import Derived.Laws.BitsLemmas
namespace Go.Mach.F
open Go Go.Mach Go.Proofs.Try
def nilT : T := .arr 1 0 fun _ _ => .hole
def st16 (l : List Int) (out : T) (i : Int) : St := [(0, ⟨0, [aT (eInts l)]⟩), (6, ⟨0, [rT nilT]⟩), (12, ⟨0, [rT (.int .i64 i)]⟩), (33, ⟨0, []⟩), (9, ⟨0, [rT out]⟩)]
def p16 : List Nat := [1, 1, 0, 1, 0]
theorem round16 (φ : Sems) (n : Nat) (l out : List Int) (i : Int) (K : Ex → St → Option (List Row)) : roundAt prog φ f16 p16 n (st16 l (eInts out) i) K =
    bif decide (i < (l.length : Int)) then
     bif decide (0 ≤ i) && (Nat.blt i.toNat l.length && true) then
      bif T.isI .i64 (atL rowI l i.toNat 0) then
       bif decide (0 ≤ i) && (Nat.blt i.toNat out.length && true) then
        bif Nat.blt (0 + i.toNat) out.length && true && true then
         K .normal (st16 l (T.set (eInts out) [0 + i.toNat, 0] (.int .i64 (atL rowI l i.toNat 0).toI)) (IntKind.i64.wrap (i + 1)))
        else none
       else none
      else none
     else none
    else K (.exit 0) (st16 l (eInts out) i) := by kernel_rfl
theorem wrap64 {n : Int} (h0 : -9223372036854775808 ≤ n) (h1 : n < 9223372036854775808) : IntKind.i64.wrap n = n := by rw [IntKind.wrap_i64]; omega
theorem blt_t {a b : Nat} (h : a < b) : Nat.blt a b = true := by rw [Nat.blt_eq]; exact h
theorem atI {l : List Int} {j : Nat} (h : j < l.length) : atL rowI l j 0 = .int .i64 l[j] := by
  rw [atL_eq (List.getElem?_eq_getElem h)]
  rfl
theorem loop16 (φ : Sems) (n : Nat) (l : List Int) (hl : l.length < 2 ^ 62) (K : Ex → St → Option (List Row)) : ∀ (k i : Nat) (out : List Int) (m : Nat), i + k = l.length → out.length = l.length → (∀ j, j < i → out[j]? = l[j]?) →
    loopAt prog φ f16 p16 n (k + 1 + m) (st16 l (eInts out) i) K = K (.exit 0) (st16 l (eInts l) (l.length : Nat)) := by
  intro k
  induction k with
  | zero =>
    intro i out m hi ho hj
    have e : 0 + 1 + m = m + 1 := by omega
    rw [e, loopAt_succ, round16]
    have h1 : decide ((i : Int) < (l.length : Int)) = false := by simp; omega
    rw [h1]
    simp only [cond_false]
    have : out = l := List.ext_getElem? fun j => by
      by_cases h : j < i
      · exact hj j h
      · rw [List.getElem?_eq_none (by omega), List.getElem?_eq_none (by omega)]
    rw [this]
    have : i = l.length := by omega
    rw [this]
  | succ k ih =>
    intro i out m hi ho hj
    have e : k + 1 + 1 + m = (k + 1 + m) + 1 := by omega
    rw [e, loopAt_succ, round16]
    have h1 : decide ((i : Int) < (l.length : Int)) = true := by simp; omega
    have h2 : decide ((0 : Int) ≤ (i : Int)) = true := by simp
    have hlt : i < l.length := by omega
    rw [h1, h2]
    simp only [Int.toNat_natCast, Nat.zero_add, blt_t hlt, blt_t (show i < out.length by omega), atI hlt, T.isI, T.toI, cond_true, Bool.and_true, decide_true]
    rw [set_eInts (by omega), wrap64 (by omega) (by omega)]
    have : ((i : Int) + 1) = ((i + 1 : Nat) : Int) := by omega
    rw [this]
    refine ih (i + 1) _ m (by omega) (by simp [ho]) fun j hj' => ?_
    by_cases h : j = i
    · subst h
      rw [List.getElem?_set_self (by omega), List.getElem?_eq_getElem hlt]
    · rw [List.getElem?_set_ne (fun x => h x.symm)]
      exact hj j (by omega)
theorem pre16 (φ : Sems) (n : Nat) (l : List Int) : body prog φ n f16 [aT (eInts l)] =
    bif decide ((0 : Int) ≤ (l.length : Int)) && (decide ((l.length : Int) ≤ (l.length : Int)) && (Nat.ble ((l.length : Int).toNat * 8) 70368744177664 && Nat.ble (l.length : Int).toNat 70368744177664)) then
     bif true && (true && (Nat.beq (l.length : Int).toNat (l.length : Int).toNat && true)) then
      loopAt prog φ f16 p16 n n (st16 l (.arr 1 (l.length : Int).toNat (cutT 0 (l.length : Int).toNat (zeroT prog 3))) 0) (contAt prog φ f16 p16 [n] n)
     else none
    else none := by kernel_rfl
theorem post16 (φ : Sems) (n : Nat) (l out : List Int) (i : Int) (ms : List Nat) : contAt prog φ f16 p16 ms n (.exit 0) (st16 l (eInts out) i) =
    bif true && (true && (Nat.beq out.length out.length && true)) then
     bif true && (true && (Nat.beq out.length out.length && true)) then
      some [rT (.arr 1 out.length (eInts out).fn)]
     else none
    else none := by kernel_rfl
theorem zeros (n : Nat) : T.arr 1 n (cutT 0 n (zeroT prog 3)) = eInts (List.replicate n 0) := by
  refine eL_ext (by simp) fun j k => ?_
  unfold cutT
  by_cases h : j < n
  · rw [blt_t h, List.getElem?_replicate, if_pos h]
    cases k with
    | zero =>
      have : zeroT prog 3 (0 + j) 0 = .int .i64 0 := by kernel_rfl
      simpa [rowI] using this
    | succ k =>
      have : zeroT prog 3 (0 + j) (k + 1) = .hole := by kernel_rfl
      simpa [rowI] using this
  · have : Nat.blt j n = false := by cases hb : Nat.blt j n with | false => rfl | true => rw [Nat.blt_eq] at hb; exact absurd hb h
    rw [this, List.getElem?_replicate, if_neg h]
    rfl
theorem mixed : prog.follows .mixedOrders = true := by kernel_rfl
theorem ble_t {a b : Nat} (h : a ≤ b) : Nat.ble a b = true := Nat.ble_eq_true_of_le h
theorem ok16 (l : List Int) (hl : l.length ≤ 2 ^ 40) : Sound prog 16 [aT (eInts l)] [rT (eInts l)] := by
  refine body_sound (φ := tabS []) tabS_nil mixed (n := l.length + 1) func16 (c := bodyOf f16) (by kernel_rfl) ?_ (of_decide_eq_true (by kernel_rfl))
  rw [pre16]
  simp only [Int.toNat_natCast, ble_t (show l.length * 8 ≤ 70368744177664 by omega), ble_t (show l.length ≤ 70368744177664 by omega), beqT, Int.natCast_nonneg, decide_true, Int.le_refl, Bool.and_true, cond_true, zeros]
  have h := loop16 (tabS []) (l.length + 1) l (by omega) (contAt prog (tabS []) f16 p16 [l.length + 1] (l.length + 1)) l.length 0 (List.replicate l.length 0) 0 (by omega) (by simp) (fun j hj => by omega)
  simp only [Nat.add_zero] at h
  refine h.trans ?_
  rw [post16]
  simp only [beqT, Bool.and_true, cond_true]
  rfl
/-! ### comparing number slices -/
def eqRound (l r : List Int) {X : Type} (st : Int → X → St) (g : Int → X → X) (i : Int) (x : X) (K : Ex → St → Option (List Row)) : Option (List Row) :=
    bif decide (i < (l.length : Int)) then
     bif decide (0 ≤ i) && (Nat.blt i.toNat l.length && true) then
      bif T.isI .i64 (atL rowI l i.toNat 0) then
       bif decide (0 ≤ i) && (Nat.blt i.toNat r.length && true) then
        bif T.isI .i64 (atL rowI r i.toNat 0) then
         bif (atL rowI l i.toNat 0).toI != (atL rowI r i.toNat 0).toI then
          K .ret (st i (g i x))
         else K .normal (st (IntKind.i64.wrap (i + 1)) (g i x))
        else none
       else none
      else none
     else none
    else K (.exit 0) (st i x)
theorem eqLoop {φ : Sems} {fn : Func} {p : List Nat} {n : Nat} {l r : List Int} {X : Type} {st : Int → X → St} {g : Int → X → X} (hr : ∀ i x K, roundAt prog φ fn p n (st i x) K = eqRound l r st g i x K) (hlr : l.length = r.length) (hl : l.length < 2 ^ 62)
    {K : Ex → St → Option (List Row)} {v0 v1 : Option (List Row)} (h0 : ∀ i x, K .ret (st i x) = v0) (h1 : ∀ i x, K (.exit 0) (st i x) = v1) : ∀ (k i : Nat) (x : X) (m : Nat), i + k = l.length →
    loopAt prog φ fn p n (k + 1 + m) (st i x) K = bif decide (l.drop i = r.drop i) then v1 else v0 := by
  intro k
  induction k with
  | zero =>
    intro i x m hi
    have e : 0 + 1 + m = m + 1 := by omega
    rw [e, loopAt_succ, hr, eqRound]
    have h2 : decide ((i : Int) < (l.length : Int)) = false := by simp; omega
    have h3 : l.drop i = r.drop i := by rw [List.drop_eq_nil_of_le (by omega), List.drop_eq_nil_of_le (by omega)]
    rw [h2, decide_eq_true h3]
    simp only [cond_false, cond_true]
    exact h1 _ _
  | succ k ih =>
    intro i x m hi
    have e : k + 1 + 1 + m = (k + 1 + m) + 1 := by omega
    rw [e, loopAt_succ, hr, eqRound]
    have h2 : decide ((i : Int) < (l.length : Int)) = true := by simp; omega
    have hlt : i < l.length := by omega
    have hlt' : i < r.length := by omega
    rw [h2]
    simp only [Int.toNat_natCast, blt_t hlt, blt_t hlt', atI hlt, atI hlt', T.isI, T.toI, cond_true, Bool.and_true, decide_true, Int.natCast_nonneg]
    have hc : (l.drop i = r.drop i) ↔ (l[i] = r[i] ∧ l.drop (i + 1) = r.drop (i + 1)) := by rw [List.drop_eq_getElem_cons hlt, List.drop_eq_getElem_cons hlt', List.cons.injEq]
    by_cases hx : l[i] = r[i]
    · have : (l[i] != r[i]) = false := by simp [hx]
      rw [this]
      simp only [cond_false]
      rw [wrap64 (by omega) (by omega)]
      have : ((i : Int) + 1) = ((i + 1 : Nat) : Int) := by omega
      rw [this, ih (i + 1) _ m (by omega)]
      congr 1
      exact decide_eq_decide.2 ⟨fun h => hc.2 ⟨hx, h⟩, fun h => (hc.1 h).2⟩
    · have : (l[i] != r[i]) = true := by simp [hx]
      rw [this]
      simp only [cond_true]
      rw [h0]
      have : decide (l.drop i = r.drop i) = false := decide_eq_false fun h => hx (hc.1 h).1
      rw [this]
      rfl
def st18 (l r : List Int) (i : Int) (_ : Unit) : St := [(0, ⟨0, [aT (eInts l)]⟩), (3, ⟨0, [aT (eInts r)]⟩), (12, ⟨0, [rT (.bool false)]⟩), (30, ⟨0, []⟩), (15, ⟨0, [rT (.int .i64 i)]⟩), (42, ⟨0, []⟩), (75, ⟨0, []⟩)]
def st61 (l r : List Int) (i : Int) (x : Option Int) : St := [(0, ⟨0, [aT (eInts l)]⟩), (3, ⟨0, [aT (eInts r)]⟩), (12, ⟨0, [rT (.bool false)]⟩), (30, ⟨0, []⟩), (39, ⟨0, [rT (.int .i64 i)]⟩), (36, ⟨0, [rT (.int .i64 l.length)]⟩), (42, ⟨0, []⟩), (15, ⟨0, match x with | some y => [rT (.int .i64 y)] | none => []⟩), (72, ⟨0, []⟩)]
theorem round18 (φ : Sems) (n : Nat) (l r : List Int) (i : Int) (x : Unit) (K : Ex → St → Option (List Row)) : roundAt prog φ f18 p16 n (st18 l r i x) K = eqRound l r (st18 l r) (fun _ x => x) i x K := by kernel_rfl
theorem round60 (φ : Sems) (n : Nat) (l r : List Int) (i : Int) (x : Unit) (K : Ex → St → Option (List Row)) : roundAt prog φ f60 p16 n (st18 l r i x) K = eqRound l r (st18 l r) (fun _ x => x) i x K := by kernel_rfl
theorem round61 (φ : Sems) (n : Nat) (l r : List Int) (i : Int) (x : Option Int) (K : Ex → St → Option (List Row)) : roundAt prog φ f61 p16 n (st61 l r i x) K = eqRound l r (st61 l r) (fun i _ => some i) i x K := by cases x <;> kernel_rfl
theorem pre18 (φ : Sems) (n : Nat) (l r : List Int) : body prog φ n f18 [aT (eInts l), aT (eInts r)] = bif (l.length : Int) != (r.length : Int) then some [rT (.bool false)] else loopAt prog φ f18 p16 n n (st18 l r 0 ()) (contAt prog φ f18 p16 [n] n) := by kernel_rfl
theorem pre60 (φ : Sems) (n : Nat) (l r : List Int) : body prog φ n f60 [aT (eInts l), aT (eInts r)] = bif (l.length : Int) != (r.length : Int) then some [rT (.bool false)] else loopAt prog φ f60 p16 n n (st18 l r 0 ()) (contAt prog φ f60 p16 [n] n) := by kernel_rfl
theorem pre61 (φ : Sems) (n : Nat) (l r : List Int) : body prog φ n f61 [aT (eInts l), aT (eInts r)] = bif (l.length : Int) != (r.length : Int) then some [rT (.bool false)] else loopAt prog φ f61 p16 n n (st61 l r 0 none) (contAt prog φ f61 p16 [n] n) := by kernel_rfl
theorem eqBody {φ : Sems} {fn : Func} {p : List Nat} {l r : List Int} {X : Type} {st : Int → X → St} {g : Int → X → X} {x0 : X} {b : Option (List Row)} {K : Ex → St → Option (List Row)} (hr : ∀ i x K, roundAt prog φ fn p (l.length + 1) (st i x) K = eqRound l r st g i x K)
    (hb : b = bif (l.length : Int) != (r.length : Int) then some [rT (.bool false)] else loopAt prog φ fn p (l.length + 1) (l.length + 1) (st 0 x0) K) (hl : l.length < 2 ^ 62) (h0 : ∀ i x, K .ret (st i x) = some [rT (.bool false)]) (h1 : ∀ i x, K (.exit 0) (st i x) = some [rT (.bool true)]) :
    b = some [rT (.bool (decide (l = r)))] := by
  rw [hb]
  by_cases h : l.length = r.length
  · have : ((l.length : Int) != (r.length : Int)) = false := by simp [h]
    rw [this]
    have := eqLoop hr h hl h0 h1 l.length 0 x0 0 (by omega)
    simp only [Nat.add_zero, List.drop_zero] at this
    refine (show _ = _ from this).trans ?_
    cases decide (l = r) <;> rfl
  · have : ((l.length : Int) != (r.length : Int)) = true := by simp; omega
    rw [this]
    have : decide (l = r) = false := decide_eq_false fun e => h (by rw [e])
    rw [this]
    rfl
theorem body18 (φ : Sems) (l r : List Int) (hl : l.length ≤ 2 ^ 40) : body prog φ (l.length + 1) f18 [aT (eInts l), aT (eInts r)] = some [rT (.bool (decide (l = r)))] :=
  eqBody (fun i x K => round18 φ _ l r i x K) (pre18 φ _ l r) (by omega) (fun i x => by kernel_rfl) (fun i x => by kernel_rfl)
theorem body60 (φ : Sems) (l r : List Int) (hl : l.length ≤ 2 ^ 40) : body prog φ (l.length + 1) f60 [aT (eInts l), aT (eInts r)] = some [rT (.bool (decide (l = r)))] :=
  eqBody (fun i x K => round60 φ _ l r i x K) (pre60 φ _ l r) (by omega) (fun i x => by kernel_rfl) (fun i x => by kernel_rfl)
theorem body61 (φ : Sems) (l r : List Int) (hl : l.length ≤ 2 ^ 40) : body prog φ (l.length + 1) f61 [aT (eInts l), aT (eInts r)] = some [rT (.bool (decide (l = r)))] :=
  eqBody (fun i x K => round61 φ _ l r i x K) (pre61 φ _ l r) (by omega) (fun i x => by cases x <;> kernel_rfl) (fun i x => by cases x <;> kernel_rfl)
end Go.Mach.F
