/- FnExactBehind: its functions, and the law on number slices. Conditions: none. -/
import Derived.Test.YtamalkcgebjphaaFa
namespace Go.Mach.F
open Go Go.Mach Go.Proofs.Try
def ok1 (l : List Int) : Prop := l.length ≤ 2 ^ 40
def ea1 (l : List Int) : List Row := [aT (eInts l)]
def ok2 (x : List Int × List Int) : Prop := x.1.length ≤ 2 ^ 40 ∧ x.2.length ≤ 2 ^ 40
def ea2 (x : List Int × List Int) : List Row := [aT (eInts x.1), aT (eInts x.2)]
def erB (b : Bool) : List Row := [rT (.bool b)]
def erL (l : List Int) : List Row := [rT (eInts l)]
theorem ea1_inj (x y : List Int) (h : ea1 x = ea1 y) : x = y := by
  simp only [ea1, aT, List.cons.injEq, Prod.mk.injEq, true_and, and_true, C.tr.injEq] at h
  exact eInts_inj h
theorem ea2_inj (x y : List Int × List Int) (h : ea2 x = ea2 y) : x = y := by
  simp only [ea2, aT, List.cons.injEq, Prod.mk.injEq, true_and, and_true, C.tr.injEq] at h
  exact Prod.ext (eInts_inj h.1) (eInts_inj h.2)
def eqF (x : List Int × List Int) : Bool := decide (x.1 = x.2)
def behF (x : List Int × List Int) : Bool := decide (x.1.length ≤ x.2.length) && decide (x.1 = x.2.take x.1.length)
noncomputable def e16 := ent ok1 ea1 erL id
noncomputable def e18 := ent ok2 ea2 erB eqF
noncomputable def e15 := ent ok2 ea2 erB behF
theorem name_ok {fn : Func} (h : decide (fn.name ≠ "runtime.NumGoroutine") = true) : fn.name ≠ "runtime.NumGoroutine" := of_decide_eq_true h
theorem s16 : ∀ xs, (e16 xs).1 = true → Sound prog 16 xs (e16 xs).2 := ent_ok ea1_inj fun l hl => ok16 l hl
theorem s18 : ∀ xs, (e18 xs).1 = true → Sound prog 18 xs (e18 xs).2 := ent_ok ea2_inj fun x hx =>
  body_sound (φ := tabS []) tabS_nil mixed (n := x.1.length + 1) func18 (c := bodyOf f18) (by kernel_rfl) (body18 _ x.1 x.2 hx.1) (name_ok (by kernel_rfl))
theorem s60 : ∀ xs, (e18 xs).1 = true → Sound prog 60 xs (e18 xs).2 := ent_ok ea2_inj fun x hx =>
  body_sound (φ := tabS []) tabS_nil mixed (n := x.1.length + 1) func60 (c := bodyOf f60) (by kernel_rfl) (body60 _ x.1 x.2 hx.1) (name_ok (by kernel_rfl))
theorem s61 : ∀ xs, (e18 xs).1 = true → Sound prog 61 xs (e18 xs).2 := ent_ok ea2_inj fun x hx =>
  body_sound (φ := tabS []) tabS_nil mixed (n := x.1.length + 1) func61 (c := bodyOf f61) (by kernel_rfl) (body61 _ x.1 x.2 hx.1) (name_ok (by kernel_rfl))
def behTree (l r : List Int) (d g : List Row → Bool) : Option (List Row) :=
  bif decide ((l.length : Int) ≤ (r.length : Int)) then
   bif decide ((0 : Int) ≤ (l.length : Int)) && decide ((l.length : Int) ≤ (r.length : Int)) then
    bif d [aT (eInts l), aT (.arr 1 l.length (cutT 0 l.length (atL rowI r)))] then some [rT (.bool (g [aT (eInts l), aT (.arr 1 l.length (cutT 0 l.length (atL rowI r)))]))] else none
   else none
  else some [rT (.bool false)]
theorem pre15 (n : Nat) (l r : List Int) (d g : List Row → Bool) : body prog (tabS [(60, fun xs => (d xs, [rT (.bool (g xs))]))]) n f15 [aT (eInts l), aT (eInts r)] = behTree l r d g := by kernel_rfl
theorem pre17 (n : Nat) (l r : List Int) (d g : List Row → Bool) : body prog (tabS [(61, fun xs => (d xs, [rT (.bool (g xs))]))]) n f17 [aT (eInts l), aT (eInts r)] = behTree l r d g := by kernel_rfl
theorem beh_eq (l r : List Int) (hl : l.length ≤ 2 ^ 40) (hr : r.length ≤ 2 ^ 40) : behTree l r (dom ok2 ea2) (fun xs => eqF (inv ok2 ea2 xs)) = some (erB (behF (l, r))) := by
  unfold behTree behF
  by_cases h : l.length ≤ r.length
  · have h1 : decide ((l.length : Int) ≤ (r.length : Int)) = true := by simp; omega
    have h2 : T.arr 1 l.length (cutT 0 l.length (atL rowI r)) = eInts (r.take l.length) := by
      have := cut_eL (m := 1) (row := rowI) (l := r) (s := 0) (n := l.length) (by omega)
      simp only [List.drop_zero] at this
      exact this
    rw [h1, h2]
    have hx : ok2 (l, r.take l.length) := ⟨hl, by simp; omega⟩
    have h3 : dom ok2 ea2 [aT (eInts l), aT (eInts (r.take l.length))] = true := dom_ea (ea := ea2) hx
    have h4 : inv ok2 ea2 [aT (eInts l), aT (eInts (r.take l.length))] = (l, r.take l.length) := inv_ea ea2_inj hx
    dsimp only
    rw [h3, h4]
    simp only [cond_true, Int.natCast_nonneg, decide_true, Bool.and_true, decide_eq_true h, Bool.true_and]
    rfl
  · have h1 : decide ((l.length : Int) ≤ (r.length : Int)) = false := by simp; omega
    rw [h1]
    simp only [cond_false, decide_eq_false h, Bool.false_and]
    rfl
theorem s15 : ∀ xs, (e15 xs).1 = true → Sound prog 15 xs (e15 xs).2 := ent_ok ea2_inj fun x hx =>
  body_sound (φ := tabS [(60, e18)]) (tabS_cons s60 tabS_nil) mixed (n := 0) func15 (c := bodyOf f15) (by kernel_rfl) ((pre15 0 x.1 x.2 (dom ok2 ea2) fun xs => eqF (inv ok2 ea2 xs)).trans (beh_eq x.1 x.2 hx.1 hx.2)) (name_ok (by kernel_rfl))
theorem s17 : ∀ xs, (e15 xs).1 = true → Sound prog 17 xs (e15 xs).2 := ent_ok ea2_inj fun x hx =>
  body_sound (φ := tabS [(61, e18)]) (tabS_cons s61 tabS_nil) mixed (n := 0) func17 (c := bodyOf f17) (by kernel_rfl) ((pre17 0 x.1 x.2 (dom ok2 ea2) fun xs => eqF (inv ok2 ea2 xs)).trans (beh_eq x.1 x.2 hx.1 hx.2)) (name_ok (by kernel_rfl))
def cutL (l : List Int) : Row := aT (.arr 1 l.length (cutT 0 l.length (eInts l).fn))
def lawTree (l r : List Int) (d16 d15 d17 d18 : List Row → Bool) (g15 g17 g18 : List Row → Bool) (A B : List Int) (cA cB : Row) : Option (List Row) :=
  bif decide ((1048576 : Int) < (l.length : Int)) then some [rT (.bool true)] else
  bif decide ((1048576 : Int) < (r.length : Int)) then some [rT (.bool true)] else
  bif d16 [aT (eInts l)] then
  (bif d16 [aT (eInts r)] then
  (bif Nat.ble (0 + A.length) A.length then
  (bif Nat.ble (0 + B.length) B.length then
  (bif d15 [cA, cB] then
  (bif d16 [aT (eInts l)] then
  (bif Nat.beq A.length A.length && true then
  (bif d16 [aT (eInts r)] then
  (bif Nat.beq B.length B.length && true then
  (bif Nat.ble (0 + A.length) A.length then
  (bif Nat.ble (0 + B.length) B.length then
  (bif d17 [cA, cB] then
  (bif !(g17 [cA, cB] == g15 [cA, cB]) then some [rT (.bool false)] else
  bif d16 [aT (eInts l)] then
  (bif Nat.ble (0 + A.length) A.length then
  (bif Nat.ble (0 + A.length) A.length then
  (bif d18 [cA, cA] then
  (bif !g18 [cA, cA] then some [rT (.bool false)] else
  bif d16 [aT (eInts r)] then
  (bif Nat.ble (0 + B.length) B.length then
  (bif Nat.ble (0 + B.length) B.length then
  (bif d18 [cB, cB] then
  (bif !g18 [cB, cB] then some [rT (.bool false)] else
  some [rT (.bool true)]) else none) else none) else none) else none) else none) else none) else none) else none) else none) else none) else none) else none) else none) else none) else none) else none) else none) else none) else none) else none
theorem pre3 (n : Nat) (l r : List Int) (d16 d15 d17 d18 : List Row → Bool) (g15 g17 g18 : List Row → Bool) (g16 : List Row → List Int) :
    body prog (tabS [(15, fun xs => (d15 xs, [rT (.bool (g15 xs))])), (17, fun xs => (d17 xs, [rT (.bool (g17 xs))])), (18, fun xs => (d18 xs, [rT (.bool (g18 xs))])), (16, fun xs => (d16 xs, [rT (eInts (g16 xs))]))]) n f3 [aT (eInts l), aT (eInts r)] =
      lawTree l r d16 d15 d17 d18 g15 g17 g18 (g16 [aT (eInts l)]) (g16 [aT (eInts r)]) (cutL (g16 [aT (eInts l)])) (cutL (g16 [aT (eInts r)])) := by kernel_rfl
theorem cutL_eq (l : List Int) : cutL l = aT (eInts l) := by
  unfold cutL
  rw [cut_eL (by omega)]
  simp
theorem law3 (l r : List Int) : body prog (tabS [(15, e15), (17, e15), (18, e18), (16, e16)]) 0 f3 [aT (eInts l), aT (eInts r)] = some (erB true) := by
  refine (pre3 0 l r (dom ok1 ea1) (dom ok2 ea2) (dom ok2 ea2) (dom ok2 ea2) (fun xs => behF (inv ok2 ea2 xs)) (fun xs => behF (inv ok2 ea2 xs)) (fun xs => eqF (inv ok2 ea2 xs)) (inv ok1 ea1)).trans ?_
  by_cases hl0 : (1048576 : Int) < (l.length : Int)
  · unfold lawTree
    rw [decide_eq_true hl0]
    rfl
  by_cases hr0 : (1048576 : Int) < (r.length : Int)
  · unfold lawTree
    rw [decide_eq_true hr0]
    cases decide ((1048576 : Int) < (l.length : Int)) <;> rfl
  have hl : l.length ≤ 2 ^ 40 := by omega
  have hr : r.length ≤ 2 ^ 40 := by omega
  have h1 : ∀ l : List Int, l.length ≤ 2 ^ 40 → dom ok1 ea1 [aT (eInts l)] = true := fun l h => dom_ea (ea := ea1) (ok := ok1) h
  have h2 : ∀ l : List Int, l.length ≤ 2 ^ 40 → inv ok1 ea1 [aT (eInts l)] = l := fun l h => inv_ea (ok := ok1) ea1_inj h
  have h3 : ∀ l r : List Int, l.length ≤ 2 ^ 40 → r.length ≤ 2 ^ 40 → dom ok2 ea2 [aT (eInts l), aT (eInts r)] = true := fun l r h h' => dom_ea (ea := ea2) (ok := ok2) (x := (l, r)) ⟨h, h'⟩
  have h4 : ∀ l r : List Int, l.length ≤ 2 ^ 40 → r.length ≤ 2 ^ 40 → inv ok2 ea2 [aT (eInts l), aT (eInts r)] = (l, r) := fun l r h h' => inv_ea (ok := ok2) (x := (l, r)) ea2_inj ⟨h, h'⟩
  rw [h2 l hl, h2 r hr, cutL_eq, cutL_eq]
  unfold lawTree
  dsimp only
  rw [h1 l hl, h1 r hr, h3 l r hl hr, h3 l l hl hl, h3 r r hr hr, h4 l r hl hr, h4 l l hl hl, h4 r r hr hr]
  simp only [Nat.zero_add, ble_t (Nat.le_refl _), beqT, Bool.and_true, cond_true, beq_self_eq_true, Bool.not_true, cond_false, eqF, decide_true, Bool.and_self]
  cases decide ((1048576 : Int) < (l.length : Int)) <;> cases decide ((1048576 : Int) < (r.length : Int)) <;> rfl
theorem s3 (l r : List Int) : Sound prog 3 [aT (eInts l), aT (eInts r)] (erB true) :=
  body_sound (φ := tabS [(15, e15), (17, e15), (18, e18), (16, e16)]) (tabS_cons s15 (tabS_cons s17 (tabS_cons s18 (tabS_cons s16 tabS_nil)))) mixed (n := 0) func3 (c := bodyOf f3) (by kernel_rfl) (law3 l r) (name_ok (by kernel_rfl))
end Go.Mach.F
