/- The row FnExactBoundFor. Conditions: none. -/
import Derived.Test.YtcfckhccphgafaaZ4
import Derived.Test.YtcfckhccphgafaaRows
set_option linter.all false
namespace Go.Proofs.Ytcfckhccphgafaa.fnExactBoundFor
open Go.ChangeShapes Go.WideShapes Go.ChangeAt Go.RowKit
set_option linter.unusedVariables false
theorem own : ownKnob Try.prog.godebug = none := by kernel_rfl
theorem laidOut : laidOutB Try.prog = true := by kernel_rfl
set_option maxRecDepth 100000 in
theorem lifted (os : Os) (started : os.Started) (H : Type) (enc : TypeId × Value → H) :
    ReturnsInHanded {} Try.checked os 4 .any (Rows.fnExactBoundForSpec.pre6 enc Try.prog Try.f4 Rows.fnExactBoundForRow.domain false) (Rows.fnExactBoundForSpec.post enc Try.prog Try.f4 false true false false) := by
  refine returnsInHanded_of_change_sized (C := Try.checked) own started (by kernel_rfl) Try.func4
    (ChangeSpec.witness6 (enc := enc) (C := Try.checked) false ⟨#[], #[.agg #[.int .i64 0, .int .i64 0, .int .i64 0, .int .i64 0, .int .i64 0, .int .i64 0, .slice none 0 0, .slice none 0 0, .slice none 0 0, .slice none 0 0, .slice none 0 0, .slice none 0 0]], []⟩ 12 (by kernel_rfl) (by kernel_rfl) (by kernel_rfl) (by kernel_rfl)) ?_
  intro W base args ds gs before hval0 hW hcnd hsz0 _
  have hval : ∀ (j : Nat) t v, Try.f4.params[j]? = some t → args[j]? = some v → Value.okWide Try.prog W .any base t v := hval0
  have hW' := hW
  obtain ⟨p, q, hA0, hV, rfl, hfz, hnd⟩ := hW
  have hA : DataW.TrodAll enc Try.prog W 0 (fun _ => true) true Try.f4.params.toList args.toList ds p := hA0
  have hpl : Try.f4.params = #[31] := Try.params4
  rw [hpl] at hA hval
  obtain ⟨v0, vs0, d0, ds0, p0, q0, hargs, rfl, rfl, h0, r0⟩ := trodAll_cons hA
  obtain ⟨rfl, rfl, rfl⟩ := trodAll_nil r0
  obtain rfl : args = #[v0] := by cases args; simp_all
  obtain ⟨rfl, rfl⟩ := trodVars_none hV
  have hwt : ∀ (j : Nat) t d, [31][j]? = some t → [d0][j]? = some d → ∀ m ∈ d.weights Try.prog t, m ≤ reachBytes := fun j t d ht hd m hm => by
    have e1 : Try.checked.prog = Try.prog := rfl
    have h1 : (DataW.weightsEach Try.prog [31] [d0]).all (· ≤ reachBytes) = true := by
      rw [hpl] at hsz0
      exact hsz0
    have := List.all_eq_true.1 h1 m (DataW.weights_mem_each ht hd m hm)
    simpa using this
  have lt0 : ∀ x ∈ p0, x.block < W.heap.size := by obtain ⟨m, hm⟩ := h0; exact DataW.trod_lt m _ _ _ hm
  obtain ⟨c0, e0, _⟩ := okWide_struct Try.underlying31 (hval 0 31 v0 rfl rfl)
  subst e0
  obtain ⟨ts0, hs0, ha0⟩ := Mach.open_row (n := 8) (ss := Mach.F.shWd) (by kernel_rfl) h0 lt0 (hwt 0 _ _ rfl rfl)
  obtain ⟨x0, ex0, z0⟩ := Mach.F.sh_Wd hs0
  subst ex0
  clear hA0 hval0 hsz0
  refine ((Mach.F.sd_xBoundFor x0 z0 (Mach.F.ndx_sh hs0) (Mach.F.wsx_sh hs0)).2 W #[.agg c0] _ (Mach.args_x rfl fun i x hi => ?_)).mono fun e W' ⟨v, δ, he, hg, hres⟩ => ?_
  · match i with
    | 0 => simp at hi; subst hi; exact ⟨rfl, _, rfl, ha0⟩
    | i + 1 => simp at hi
  have hv := Mach.res_bool hres
  subst hv
  subst he
  have bel := Mach.GrewD.below hg
  exact ⟨_, rfl, _, _, _, [], _, [], hW', trodAll_mk1 (shut_bool Try.underlying4 _), (trodAll_cons_mk (Below.trod laidOut (by kernel_rfl) (of_decide_eq_true (by kernel_rfl)) h0 bel lt0) trodAll_mk0), rfl, bel.frame _, fun h => by cases h⟩
theorem over : Rows.fnExactBoundForRow.holds Try.pinned (OpenSpec.ofChange Rows.fnExactBoundForSpec) :=
  OpenClaim.holds_of_wide 4 Try.f4 rfl rfl rfl rfl rfl rfl rfl ⟨rfl, rfl, rfl, rfl, rfl⟩ rfl rfl rfl rfl rfl (by kernel_rfl) Try.func4 (by kernel_rfl)
    (of_decide_eq_true (by kernel_rfl)) (by unfold Func.isWrapper; first | (rw [if_pos (by decide +kernel)]; kernel_rfl) | (rw [if_neg (by decide +kernel)]; exact ⟨rfl, rfl⟩))
    (fun os started H enc _ => lifted os started H enc)
theorem proved : Rows.FnExactBoundForSaid := over
#print axioms proved
end Go.Proofs.Ytcfckhccphgafaa.fnExactBoundFor