/- The row FnExactEagerMake. Conditions: none. -/
import Derived.Test.YtcfckhccphgafaaZ5
import Derived.Test.YtcfckhccphgafaaRows
set_option linter.all false
namespace Go.Proofs.Ytcfckhccphgafaa.fnExactEagerMake
open Go.ChangeShapes Go.WideShapes Go.ChangeAt Go.RowKit
set_option linter.unusedVariables false
theorem own : ownKnob Try.prog.godebug = none := by kernel_rfl
theorem laidOut : laidOutB Try.prog = true := by kernel_rfl
set_option maxRecDepth 100000 in
theorem lifted (os : Os) (started : os.Started) (H : Type) (enc : TypeId × Value → H) :
    ReturnsInHanded {} Try.checked os 6 .any (Rows.fnExactEagerMakeSpec.pre6 enc Try.prog Try.f6 Rows.fnExactEagerMakeRow.domain false) (Rows.fnExactEagerMakeSpec.post enc Try.prog Try.f6 false true false false) := by
  refine returnsInHanded_of_change_sized (C := Try.checked) own started (by kernel_rfl) Try.func6
    (ChangeSpec.witness6 (enc := enc) (C := Try.checked) false ⟨#[], #[.agg #[.int .i64 0, .int .i64 0, .int .i64 0, .int .i64 0, .int .i64 0, .int .i64 0, .slice none 0 0, .slice none 0 0], .agg #[.int .i64 0, .int .i64 0], .agg #[.int .i64 0, .int .i64 0], .bool false], []⟩ 12 (by kernel_rfl) (by kernel_rfl) (by kernel_rfl) (by kernel_rfl)) ?_
  intro W base args ds gs before hval0 hW hcnd hsz0 _
  have hval : ∀ (j : Nat) t v, Try.f6.params[j]? = some t → args[j]? = some v → Value.okWide Try.prog W .any base t v := hval0
  have hW' := hW
  obtain ⟨p, q, hA0, hV, rfl, hfz, hnd⟩ := hW
  have hA : DataW.TrodAll enc Try.prog W 0 (fun _ => true) true Try.f6.params.toList args.toList ds p := hA0
  have hpl : Try.f6.params = #[49, 51, 51, 4] := Try.params6
  rw [hpl] at hA hval
  obtain ⟨v0, vs0, d0, ds0, p0, q0, hargs, rfl, rfl, h0, r0⟩ := trodAll_cons hA
  obtain ⟨v1, vs1, d1, ds1, p1, q1, rfl, rfl, rfl, h1, r1⟩ := trodAll_cons r0
  obtain ⟨v2, vs2, d2, ds2, p2, q2, rfl, rfl, rfl, h2, r2⟩ := trodAll_cons r1
  obtain ⟨v3, vs3, d3, ds3, p3, q3, rfl, rfl, rfl, h3, r3⟩ := trodAll_cons r2
  obtain ⟨rfl, rfl, rfl⟩ := trodAll_nil r3
  obtain rfl : args = #[v0, v1, v2, v3] := by cases args; simp_all
  obtain ⟨rfl, rfl⟩ := trodVars_none hV
  have hwt : ∀ (j : Nat) t d, [49, 51, 51, 4][j]? = some t → [d0, d1, d2, d3][j]? = some d → ∀ m ∈ d.weights Try.prog t, m ≤ reachBytes := fun j t d ht hd m hm => by
    have e1 : Try.checked.prog = Try.prog := rfl
    have h1 : (DataW.weightsEach Try.prog [49, 51, 51, 4] [d0, d1, d2, d3]).all (· ≤ reachBytes) = true := by
      rw [hpl] at hsz0
      exact hsz0
    have := List.all_eq_true.1 h1 m (DataW.weights_mem_each ht hd m hm)
    simpa using this
  have lt0 : ∀ x ∈ p0, x.block < W.heap.size := by obtain ⟨m, hm⟩ := h0; exact DataW.trod_lt m _ _ _ hm
  obtain ⟨c0, e0, _⟩ := okWide_struct Try.underlying49 (hval 0 49 v0 rfl rfl)
  subst e0
  obtain ⟨ts0, hs0, ha0⟩ := Mach.open_row (n := 8) (ss := Mach.F.shMl) (by kernel_rfl) h0 lt0 (hwt 0 _ _ rfl rfl)
  obtain ⟨x0, ex0, z0⟩ := Mach.F.sh_Ml hs0
  subst ex0
  have lt1 : ∀ x ∈ p1, x.block < W.heap.size := by obtain ⟨m, hm⟩ := h1; exact DataW.trod_lt m _ _ _ hm
  obtain ⟨c1, e1, _⟩ := okWide_struct Try.underlying51 (hval 1 51 v1 rfl rfl)
  subst e1
  obtain ⟨ts1, hs1, ha1⟩ := Mach.open_row (n := 8) (ss := Mach.F.shHd) (by kernel_rfl) h1 lt1 (hwt 1 _ _ rfl rfl)
  obtain ⟨x1, ex1, z1⟩ := Mach.F.sh_Hd hs1
  subst ex1
  have lt2 : ∀ x ∈ p2, x.block < W.heap.size := by obtain ⟨m, hm⟩ := h2; exact DataW.trod_lt m _ _ _ hm
  obtain ⟨c2, e2, _⟩ := okWide_struct Try.underlying51 (hval 2 51 v2 rfl rfl)
  subst e2
  obtain ⟨ts2, hs2, ha2⟩ := Mach.open_row (n := 8) (ss := Mach.F.shHd) (by kernel_rfl) h2 lt2 (hwt 2 _ _ rfl rfl)
  obtain ⟨x2, ex2, z2⟩ := Mach.F.sh_Hd hs2
  subst ex2
  have lt3 : ∀ x ∈ p3, x.block < W.heap.size := by obtain ⟨m, hm⟩ := h3; exact DataW.trod_lt m _ _ _ hm
  obtain ⟨c3, e3⟩ := okWide_bool Try.underlying4 (hval 3 4 v3 rfl rfl)
  subst e3
  obtain ⟨t3, hs3, ha3⟩ := Mach.open_cell (n := 8) (s := .bool) rfl (by kernel_rfl) h3 lt3 (hwt 3 _ _ rfl rfl)
  obtain ⟨x3, ex3⟩ := Mach.F.sh_bool hs3
  subst ex3
  clear hA0 hval0 hsz0
  refine ((Mach.F.sd_xEagerMake x0 x1 x2 x3 z0 z1 z2 ).2 W #[.agg c0, .agg c1, .agg c2, .bool c3] _ (Mach.args_x rfl fun i x hi => ?_)).mono fun e W' ⟨v, δ, he, hg, hres⟩ => ?_
  · match i with
    | 0 => simp at hi; subst hi; exact ⟨rfl, _, rfl, ha0⟩
    | 1 => simp at hi; subst hi; exact ⟨rfl, _, rfl, ha1⟩
    | 2 => simp at hi; subst hi; exact ⟨rfl, _, rfl, ha2⟩
    | 3 => simp at hi; subst hi; exact ⟨rfl, _, rfl, ha3⟩
    | i + 4 => simp at hi
  have hv := Mach.res_bool hres
  subst hv
  subst he
  have bel := Mach.GrewD.below hg
  exact ⟨_, rfl, _, _, _, [], _, [], hW', trodAll_mk1 (shut_bool Try.underlying4 _), (trodAll_cons_mk (Below.trod laidOut (by kernel_rfl) (of_decide_eq_true (by kernel_rfl)) h0 bel lt0) (trodAll_cons_mk (Below.trod laidOut (by kernel_rfl) (of_decide_eq_true (by kernel_rfl)) h1 bel lt1) (trodAll_cons_mk (Below.trod laidOut (by kernel_rfl) (of_decide_eq_true (by kernel_rfl)) h2 bel lt2) (trodAll_cons_mk (Below.trod laidOut (by kernel_rfl) (of_decide_eq_true (by kernel_rfl)) h3 bel lt3) trodAll_mk0)))), rfl, bel.frame _, fun h => by cases h⟩
theorem over : Rows.fnExactEagerMakeRow.holds Try.pinned (OpenSpec.ofChange Rows.fnExactEagerMakeSpec) :=
  OpenClaim.holds_of_wide 6 Try.f6 rfl rfl rfl rfl rfl rfl rfl ⟨rfl, rfl, rfl, rfl, rfl⟩ rfl rfl rfl rfl rfl (by kernel_rfl) Try.func6 (by kernel_rfl)
    (of_decide_eq_true (by kernel_rfl)) (by unfold Func.isWrapper; first | (rw [if_pos (by decide +kernel)]; kernel_rfl) | (rw [if_neg (by decide +kernel)]; exact ⟨rfl, rfl⟩))
    (fun os started H enc _ => lifted os started H enc)
theorem proved : Rows.FnExactEagerMakeSaid := over
#print axioms proved
end Go.Proofs.Ytcfckhccphgafaa.fnExactEagerMake