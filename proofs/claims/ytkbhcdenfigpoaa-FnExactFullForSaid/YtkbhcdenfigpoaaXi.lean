/- OneOf. Conditions: none. -/
import Derived.Test.YtkbhcdenfigpoaaXh
set_option linter.all false
namespace Go.Mach.F
open Go Go.Mach Go.Proofs.Try
theorem body_iOneOf (w : Wd) (k : Int) (n : Nat) (h : ok_iOneOf (w, k)) : body prog (tabS [(i_iRoomsIn, e_iRoomsIn), (i_Contains, e_Contains)]) kp_iOneOf n F_iOneOf (ea_iOneOf (w, k)) = some (erB 2 (f_iOneOf (w, k))) := by
  have hlm := lm
  unfold ea_iOneOf f_iOneOf
  try dsimp only
  rw [pre_iOneOf]
  have c0 : ok_iRoomsIn w := h
  have c1 : ok_Index (rms w.l, k) := by have := rmsN_len w.l w.l.length; have := h.1; unfold ok_Index; dsimp only [rms] at *; omega
  simp (disch := omega) only [lt_d, ge0_d, Int.toNat_natCast, blt_d, ble_self, beq_self, decide_true, cond_true, Bool.and_self, Bool.and_true, Bool.true_and, gd_true, Nat.zero_add, List.getD_cons_zero, List.getD_cons_succ, isI_int, toI_int, isB_bool, toB_bool, eL_T, arr_ln, arr_fn, arr_wd, arr_is, arr_get, eL_T, cut_all, rowI, wrapI, Wd.cs, entK_of (dm_iRoomsIn c0) (iv_iRoomsIn c0), d_iRoomsIn, entK_of (dm_Index c1) (iv_Index c1), d_Index]
  exact congrArg (fun b => some (erB 2 b)) (idx_has _ _)
theorem s_iOneOf : EntOk prog i_iOneOf e_iOneOf := ent_ok ea_iOneOf_inj fun x hx =>
  body_sound (φ := (tabS [(i_iRoomsIn, e_iRoomsIn), (i_Contains, e_Contains)])) (tabS_cons s_iRoomsIn (tabS_cons s_Contains tabS_nil)) mixed (kp := kp_iOneOf) (n := 0) func31 (c := bodyOf F_iOneOf) (by kernel_rfl) (body_iOneOf x.1 x.2 (0) hx) (name_ok (by kernel_rfl))
theorem body_sOneOf (w : Wd) (k : Int) (n : Nat) (h : ok_sOneOf (w, k)) : body prog (tabS [(i_sRoomsIn, e_sRoomsIn), (i_l7Has, e_l7Has)]) kp_sOneOf n F_sOneOf (ea_sOneOf (w, k)) = some (erB 2 (f_sOneOf (w, k))) := by
  have hlm := lm
  unfold ea_sOneOf f_sOneOf
  try dsimp only
  rw [pre_sOneOf]
  have c0 : ok_sRoomsIn w := h
  have c1 : ok_l7Has (rms w.l, k) := by have := rmsN_len w.l w.l.length; have := h.1; unfold ok_l7Has; dsimp only [rms] at *; omega
  simp (disch := omega) only [lt_d, ge0_d, Int.toNat_natCast, blt_d, ble_self, beq_self, decide_true, cond_true, Bool.and_self, Bool.and_true, Bool.true_and, gd_true, Nat.zero_add, List.getD_cons_zero, List.getD_cons_succ, isI_int, toI_int, isB_bool, toB_bool, eL_T, arr_ln, arr_fn, arr_wd, arr_is, arr_get, eL_T, cut_all, rowI, wrapI, Wd.cs, entK_of (dm_sRoomsIn c0) (iv_sRoomsIn c0), d_sRoomsIn, entK_of (dm_l7Has c1) (iv_l7Has c1), d_l7Has]
  rfl
theorem s_sOneOf : EntOk prog i_sOneOf e_sOneOf := ent_ok ea_sOneOf_inj fun x hx =>
  body_sound (φ := (tabS [(i_sRoomsIn, e_sRoomsIn), (i_l7Has, e_l7Has)])) (tabS_cons s_sRoomsIn (tabS_cons s_l7Has tabS_nil)) mixed (kp := kp_sOneOf) (n := 0) func30 (c := bodyOf F_sOneOf) (by kernel_rfl) (body_sOneOf x.1 x.2 (0) hx) (name_ok (by kernel_rfl))
theorem wf_i64 {k : Int} (h : (Lit.int .i64 k).wf = true) : inI k := by
  unfold inI
  simp only [Lit.wf, Bool.and_eq_true, decide_eq_true_eq] at h
  have e1 : IntKind.i64.min = -9223372036854775808 := by decide
  have e2 : IntKind.i64.max = 9223372036854775807 := by decide
  rw [e1, e2] at h
  omega
theorem upI_sh {x : Wd} (hh : ShTs x.cs shWd) : upI x.l := fun y hy => by
  obtain ⟨j, hj, e⟩ := List.getElem_of_mem hy
  have h9 := hh.2.2.2.2.2.2.2.2.2.1
  obtain ⟨ss, e1, _, _, h1, _⟩ := h9
  cases e1
  have h2 := h1 j hj 3 (.int .i64) rfl
  rw [show (atL Nd.cs x.l j 3) = T.int .i64 y.up from by rw [atL_of (List.getElem?_eq_getElem hj), e]; rfl] at h2
  exact wf_i64 h2.2

end Go.Mach.F