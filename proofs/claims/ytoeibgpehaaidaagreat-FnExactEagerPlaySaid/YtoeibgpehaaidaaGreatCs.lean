/- The row FnExactEagerPlay. Conditions: none. -/
import Derived.Test.YtoeibgpehaaidaaGreatZ8
import Derived.Test.YtoeibgpehaaidaaGreatRows
set_option linter.all false
namespace Go.Proofs.YtoeibgpehaaidaaGreat.fnExactEagerPlay
open Go.ChangeShapes Go.WideShapes Go.ChangeAt Go.RowKit
set_option linter.unusedVariables false
theorem own : ownKnob Tryz.prog.godebug = none := by kernel_rfl
theorem laidOut : laidOutB Tryz.prog = true := by kernel_rfl
set_option maxRecDepth 100000 in
theorem lifted (os : Os) (started : os.Started) (H : Type) (enc : TypeId × Value → H) :
  ReturnsInHanded {} Tryz.checked os 3 .any (Rows.fnExactEagerPlaySpec.pre6 enc Tryz.prog Tryz.f3 Rows.fnExactEagerPlayRow.domain false) (Rows.fnExactEagerPlaySpec.post enc Tryz.prog Tryz.f3 false true false false) := by
 refine returnsInHanded_of_change_sized (C := Tryz.checked) own started (by kernel_rfl) Tryz.func3
  (ChangeSpec.witness6 (enc := enc) (C := Tryz.checked) false ⟨#[], #[.agg #[.int .i64 0, .int .i64 0, .int .i64 0, .int .i64 0, .int .i64 0, .int .i64 0, .slice none 0 0, .slice none 0 0], .slice none 0 0, .slice none 0 0], []⟩ 12 (by kernel_rfl) (by kernel_rfl) (by kernel_rfl) (by kernel_rfl)) ?_
 intro W base args ds gs before hval0 hW hcnd hsz0 _
 have hval : ∀ (j : Nat) t v, Tryz.f3.params[j]? = some t → args[j]? = some v → Value.okWide Tryz.prog W .any base t v := hval0
 have hW' := hW
 obtain ⟨p, q, hA0, hV, rfl, hfz, hnd⟩ := hW
 have hA : DataW.TrodAll enc Tryz.prog W 0 (fun _ => true) true Tryz.f3.params.toList args.toList ds p := hA0
 have hpl : Tryz.f3.params = #[27, 28, 29] := Tryz.params3
 rw [hpl] at hA hval
 obtain ⟨v0, vs0, d0, ds0, p0, q0, hargs, rfl, rfl, h0, r0⟩ := trodAll_cons hA
 obtain ⟨v1, vs1, d1, ds1, p1, q1, rfl, rfl, rfl, h1, r1⟩ := trodAll_cons r0
 obtain ⟨v2, vs2, d2, ds2, p2, q2, rfl, rfl, rfl, h2, r2⟩ := trodAll_cons r1
 obtain ⟨rfl, rfl, rfl⟩ := trodAll_nil r2
 obtain rfl : args = #[v0, v1, v2] := by cases args; simp_all
 obtain ⟨rfl, rfl⟩ := trodVars_none hV
 have hwt : ∀ (j : Nat) t d, [27, 28, 29][j]? = some t → [d0, d1, d2][j]? = some d → ∀ m ∈ d.weights Tryz.prog t, m ≤ reachBytes := fun j t d ht hd m hm => by
  have e1 : Tryz.checked.prog = Tryz.prog := rfl
  have h1 : (DataW.weightsEach Tryz.prog [27, 28, 29] [d0, d1, d2]).all (· ≤ reachBytes) = true := by
   rw [hpl] at hsz0
   exact hsz0
  have := List.all_eq_true.1 h1 m (DataW.weights_mem_each ht hd m hm)
  simpa using this
 have lt0 : ∀ x ∈ p0, x.block < W.heap.size := by obtain ⟨m, hm⟩ := h0; exact DataW.trod_lt m _ _ _ hm
 obtain ⟨c0, e0, _⟩ := okWide_struct Tryz.underlying27 (hval 0 27 v0 rfl rfl)
 subst e0
 obtain ⟨ts0, hs0, ha0⟩ := Mach.open_row (n := 8) (ss := Mach.F.shMl) (by kernel_rfl) h0 lt0 (hwt 0 _ _ rfl rfl)
 obtain ⟨x0, ex0, z0⟩ := Mach.F.sh_Ml hs0
 subst ex0
 have lt1 : ∀ x ∈ p1, x.block < W.heap.size := by obtain ⟨m, hm⟩ := h1; exact DataW.trod_lt m _ _ _ hm
 obtain ⟨c1, cl1, cc1, e1⟩ := okWide_slice Tryz.underlying28 (hval 1 28 v1 rfl rfl)
 subst e1
 obtain ⟨t1, hs1, ha1⟩ := Mach.open_cell (n := 8) (s := .arr Mach.F.shOp1) rfl (by kernel_rfl) h1 lt1 (hwt 1 _ _ rfl rfl)
 obtain ⟨x1, ex1, z1, y1⟩ := Mach.F.sh_Op1S hs1
 subst ex1
 have lt2 : ∀ x ∈ p2, x.block < W.heap.size := by obtain ⟨m, hm⟩ := h2; exact DataW.trod_lt m _ _ _ hm
 obtain ⟨c2, cl2, cc2, e2⟩ := okWide_slice Tryz.underlying29 (hval 2 29 v2 rfl rfl)
 subst e2
 obtain ⟨t2, hs2, ha2⟩ := Mach.open_cell (n := 8) (s := .arr Mach.F.shAn) rfl (by kernel_rfl) h2 lt2 (hwt 2 _ _ rfl rfl)
 obtain ⟨x2, ex2, z2, y2⟩ := Mach.F.sh_AnS hs2
 subst ex2
 clear hA0 hval0 hsz0
 refine ((Mach.F.sd_xEagerPlay x0 x1 x2 z0 ⟨z1, y1⟩ ⟨z2, y2⟩).2 W #[.agg c0, .slice c1 cl1 cc1, .slice c2 cl2 cc2] _ (Mach.args_x rfl fun i x hi => ?_)).mono fun e W' ⟨v, δ, he, hg, hres⟩ => ?_
 ·match i with
  | 0 => simp at hi; subst hi; exact ⟨rfl, _, rfl, ha0⟩
  | 1 => simp at hi; subst hi; exact ⟨rfl, _, rfl, ha1⟩
  | 2 => simp at hi; subst hi; exact ⟨rfl, _, rfl, ha2⟩
  | i + 3 => simp at hi
 have hv := Mach.res_bool hres
 subst hv
 subst he
 have bel := Mach.GrewD.below hg
 exact ⟨_, rfl, _, _, _, [], _, [], hW', trodAll_mk1 (shut_bool Tryz.underlying4 _), (trodAll_cons_mk (Below.trod laidOut (by kernel_rfl) (of_decide_eq_true (by kernel_rfl)) h0 bel lt0) (trodAll_cons_mk (Below.trod laidOut (by kernel_rfl) (of_decide_eq_true (by kernel_rfl)) h1 bel lt1) (trodAll_cons_mk (Below.trod laidOut (by kernel_rfl) (of_decide_eq_true (by kernel_rfl)) h2 bel lt2) trodAll_mk0))), rfl, bel.frame _, fun h => by cases h⟩
theorem over : Rows.fnExactEagerPlayRow.holds Tryz.pinned (OpenSpec.ofChange Rows.fnExactEagerPlaySpec) :=
 OpenClaim.holds_of_wide 3 Tryz.f3 rfl rfl rfl rfl rfl rfl rfl ⟨rfl, rfl, rfl, rfl, rfl⟩ rfl rfl rfl rfl rfl (by kernel_rfl) Tryz.func3 (by kernel_rfl)
  (of_decide_eq_true (by kernel_rfl)) (by unfold Func.isWrapper; first | (rw [if_pos (by decide +kernel)]; kernel_rfl) | (rw [if_neg (by decide +kernel)]; exact ⟨rfl, rfl⟩))
  (fun os started H enc _ => lifted os started H enc)
theorem proved : Rows.FnExactEagerPlaySaid := over
#print axioms proved
end Go.Proofs.YtoeibgpehaaidaaGreat.fnExactEagerPlay