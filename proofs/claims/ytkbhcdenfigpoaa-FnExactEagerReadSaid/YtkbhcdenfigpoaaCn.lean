/- Functions that look whether their slice is nil, and answer alike for a nil and an empty one. Conditions: none (lemmas). -/
import Derived.Test.YtkbhcdenfigpoaaRo
set_option linter.all false
namespace Go.Mach
open Go
section
variable {P : Program} {φ : Sems}
theorem S.free {E σ a w} (h : S E σ a w) (t : Nat) (x : Value) (hr : (σ.get (slot t)).rows = []) : S E σ (a.put (some t) x) w := by
  obtain ⟨G, hG, hp⟩ := h
  refine ⟨G, ⟨hG.nd, hG.inj, hG.rng, hG.os, hG.tape, hG.output, hG.size, hG.kept, fun t' => ?_, hG.boxes, hG.exts, hG.xbox, hG.defers, ?_, hG.here⟩, hp⟩
  · by_cases e : t' = t
    · subst e
      rw [hr]
      trivial
    · have := hG.slots t'
      have e2 : (a.put (some t) x).tmps.getD t' undef = a.tmps.getD t' undef := by
        simp only [Act.put, Array.getD_eq_getD_getElem?]
        rw [Array.getElem?_setIfInBounds_ne (fun h => e h.symm)]
      rw [e2]
      exact this
  · have := hG.tm
    simpa [Act.put] using this
/-- What a function's code computes if it ends in a return. -/
def bodyR (P : Program) (φ : Sems) (kp : List (Nat × List Nat)) (n : Nat) (fn : Func) (X : Code) (args : List Arg) : Res :=
  exec P φ (kpOf kp) fn.ntmps none n X (initA fn.ntmps 0 args) fun e σ => match e with
    | .ret => resultsK P φ none fn (args.map (·.1)) σ fun rows outs => some (rows, outs)
    | _ => none
theorem ret_sound (hφ : SemsOk P φ) (hm : P.follows .mixedOrders = true) {kp : List (Nat × List Nat)} {n : Nat} {fn : Func} {X : Code} {args : List Arg} {rs outs : List Row} (h : bodyR P φ kp n fn X args = some (rs, outs))
    {w : World} {vals : Array Value} {γ : Nat → Gh} (hargs : ArgsX w args vals γ) {a : Act} (hS : S ⟨w, Dof γ, fn.ntmps, fun i => vals.getD i undef, fun t => initG fn.ntmps args γ (box t) []⟩ (initA fn.ntmps 0 args) a w) :
    X.wp P (fun e a w' => e = .ret ∧ bodyPost P fn (fun e w' => ∃ v δ, e = .returned v ∧ GrewD w w' (Dof γ) ∧ ResX w w' γ args vals rs outs v δ) .ret a w') a w := by
  unfold bodyR at h
  have h' := cast (exec_nat (P := P) (φ := φ) (fun o : Option (List Row × List Row) => o = some (rs, outs)) (z := none) (z' := False) (by simp) (kpOf kp) fn.ntmps n X (initA fn.ntmps 0 args) fun e σ => match e with
    | .ret => resultsK P φ none fn (args.map (·.1)) σ fun rows outs => some (rows, outs)
    | _ => none) h
  have hxb : ∀ i x, args[i]? = some x → x.1 = 2 → (fun t => initG fn.ntmps args γ (box t) []) (fn.ntmps + i) = γ i [] := fun i x hi ht => by
    simp only
    rw [initG_box, tagOf_eq hi, if_pos ht]
  refine cond_sound hm (E := ⟨w, Dof γ, fn.ntmps, fun i => vals.getD i undef, fun t => initG fn.ntmps args γ (box t) []⟩) hφ X _ _ _ _ _ h' hS fun e σ' a' w' hK hS => ?_
  cases e with
  | exit i => cases hK
  | normal => cases hK
  | ret => exact ⟨rfl, post_sound hargs hxb hS hK⟩
theorem clone_sound (hφ : SemsOk P φ) (hm : P.follows .mixedOrders = true) {kp : List (Nat × List Nat)} {n : Nat} {f : FuncId} {fn : Func} (hf : P.funcs[f]? = some fn) (hN : fn.name ≠ "runtime.NumGoroutine") {o0 o1 o2 : Oper} {A B : Code}
    (hc : fn.body = some (.seq (.region 0 #[o0] false) (.seq (.seq (.region 1 #[o1, o2] false) (.cond (.tmp 4) A .skip)) B)))
    (g0 : o0.guard = none) (g1 : o1.guard = none) (g2 : o2.guard = none)
    (h0 : ∀ a w K Q, K (a.put (some 2) (.slice none 0 0)) w → o0.wp P a w K Q)
    (h1 : ∀ a w K Q, K (a.put (some 3) (a.eval (.tmp 0))) w → o1.wp P a w K Q)
    (h2 : ∀ a w K Q Ad k c, a.eval (.tmp 3) = .slice Ad k c → K (a.put (some 4) (.bool Ad.isNone)) w → o2.wp P a w K Q)
    (hnt : 5 ≤ fn.ntmps) {m k : Nat} {ft : Nat → Nat → T} {rs outs : List Row}
    (hA : k = 0 → bodyR P φ kp n fn A [F.aT (.arr m k ft)] = some (rs, outs))
    (hB : bodyR P φ kp n fn B [F.aT (.arr m k ft)] = some (rs, outs)) : Sound P f [F.aT (.arr m k ft)] rs outs := by
  refine ⟨⟨fn, hf, by rw [hc]; rfl, hN⟩, fun w vals γ hargs => ?_⟩
  have hS := S.init (nt := fn.ntmps) hargs (by simp only [List.length_cons, List.length_nil]; omega)
  obtain ⟨v, hv, hok⟩ := hargs.arg 0 _ rfl
  have hr : RelIm w (calleeEnv w (Dof γ)).N (.arr m k ft) v := by
    unfold ArgOk at hok
    rw [if_neg (by simp [F.aT]), if_neg (by simp [F.aT])] at hok
    exact hok (fun _ => noG) fun _ => z0
  obtain ⟨Ad, cap, rfl, hcap, hpos⟩ := hr
  refine calls_of_wp hf hc ?_
  have hsz := hargs.size
  simp only [List.length_cons, List.length_nil] at hsz
  generalize ha : (⟨vals ++ Array.replicate (fn.ntmps - vals.size) undef, []⟩ : Act) = a at hS ⊢
  have hat : a.tmps.size = fn.ntmps := by rw [← ha]; simp; omega
  have ha0 : a.eval (.tmp 0) = .slice Ad k cap := by
    rw [← ha]
    simp only [Act.eval, Array.getD_eq_getD_getElem?]
    rw [Array.getElem?_append_left (by omega), hv]
    rfl
  have want : ∀ (o : Oper) t, o.guard = none → Region.wanted o t = true := fun o t h => by simp [Region.wanted, h]
  refine wp_seq (wp_region ?_)
  show wpOps P #[o0] _ [0] a w
  simp only [wpOps, List.getElem?_toArray, List.getElem?_cons_zero, want _ _ g0, if_true]
  refine .inl (h0 _ _ _ _ ?_)
  refine wp_seq (wp_seq (wp_region ?_))
  show wpOps P #[o1, o2] _ [0, 1] _ w
  simp only [wpOps, List.getElem?_toArray, List.getElem?_cons_zero, List.getElem?_cons_succ, want _ _ g1, want _ _ g2, if_true]
  refine .inl (h1 _ _ _ _ (.inl (h2 _ _ _ _ Ad k cap ?_ ?_)))
  · have e1 : (a.put (some 2) (.slice none 0 0)).eval (.tmp 0) = .slice Ad k cap := by
      rw [← ha0]
      simp [Act.put, Act.eval, Array.getD_eq_getD_getElem?]
    rw [e1]
    have h3 : 3 < a.tmps.size := by omega
    simp [Act.put, Act.eval, Array.getD_eq_getD_getElem?, Array.getElem?_setIfInBounds, h3]
  · generalize hx : (a.put (some 2) (Value.slice none 0 0)).eval (.tmp 0) = x
    have hS2 : S ⟨w, Dof γ, fn.ntmps, fun i => vals.getD i undef, fun t => initG fn.ntmps [F.aT (.arr m k ft)] γ (box t) []⟩ (initA fn.ntmps 0 [F.aT (.arr m k ft)]) ((((a.put (some 2) (.slice none 0 0))).put (some 3) x).put (some 4) (.bool Ad.isNone)) w :=
      ((hS.free 2 _ rfl).free 3 _ rfl).free 4 _ rfl
    have e4 : ((((a.put (some 2) (Value.slice none 0 0))).put (some 3) x).put (some 4) (.bool Ad.isNone)).eval (.tmp 4) = .bool Ad.isNone := by
      have h4 : 4 < a.tmps.size := by omega
      simp [Act.put, Act.eval, Array.getD_eq_getD_getElem?, Array.getElem?_setIfInBounds, h4]
    refine wp_cond e4 ?_
    cases Ad with
    | none =>
      have hk : k = 0 := by
        rcases Nat.eq_zero_or_pos k with h | h
        · exact h
        · obtain ⟨b, off, he, _⟩ := hpos h
          cases he
      refine wp_mono (ret_sound hφ hm (hA hk) hargs hS2) fun e a' w' hq => ?_
      obtain ⟨rfl, hq⟩ := hq
      exact hq
    | some ad =>
      refine wp_skip ?_
      refine wp_mono (ret_sound hφ hm hB hargs hS2) fun e a' w' hq => ?_
      obtain ⟨rfl, hq⟩ := hq
      exact hq
end
end Go.Mach
