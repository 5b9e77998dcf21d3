/- FitsMore, FullFor. Conditions: none. -/
import Derived.Test.YtkbhcdenfigpoaaXn
set_option linter.all false
namespace Go.Mach.F
open Go Go.Mach Go.Proofs.Try
--=set_option maxRecDepth 100000
theorem body_iFitsMore (w : Wd) (m : Int) (n : Nat) (h : ok_iFitsMore (w, m)) : body prog (tabS [(i_iChunksIn, e_iChunksIn)]) kp_iFitsMore n F_iFitsMore (ea_iFitsMore (w, m)) = some (erB 2 (f_iFitsMore (w, m))) := by
  have c0 : ok_iChunksIn w := h
  unfold ea_iFitsMore f_iFitsMore fitsM
  try dsimp only
  rw [pre_iFitsMore]
  simp only [lt_d, ge0_d, Int.toNat_natCast, blt_d, ble_self, beq_self, decide_true, cond_true, Bool.and_self, Bool.and_true, Bool.true_and, gd_true, Nat.zero_add, List.getD_cons_zero, List.getD_cons_succ, isI_int, toI_int, isB_bool, toB_bool, eL_T, arr_ln, arr_fn, arr_wd, arr_is, arr_get, eL_T, Wd.cs, entK_of (dm_iChunksIn c0) (iv_iChunksIn c0), d_iChunksIn]
  by_cases h1 : 0 ≤ m
  · by_cases h2 : m ≤ w.c.chunks
    · simp only [h1, h2, decide_true, cond_true, Bool.true_and]
      rfl
    · simp only [h1, h2, decide_true, decide_false, cond_true, cond_false, Bool.and_false, Bool.false_and]
      rfl
  · simp only [h1, decide_false, cond_false, Bool.false_and]
    rfl
theorem s_iFitsMore : EntOk prog i_iFitsMore e_iFitsMore := ent_ok ea_iFitsMore_inj fun x hx =>
  body_sound (φ := (tabS [(i_iChunksIn, e_iChunksIn)])) (tabS_cons s_iChunksIn tabS_nil) mixed (kp := kp_iFitsMore) (n := 0) func97 (c := bodyOf F_iFitsMore) (by kernel_rfl) (body_iFitsMore x.1 x.2 (0) hx) (name_ok (by kernel_rfl))
theorem body_sFitsMore (w : Wd) (m : Int) (n : Nat) (h : ok_sFitsMore (w, m)) : body prog (tabS [(i_sChunksIn, e_sChunksIn)]) kp_sFitsMore n F_sFitsMore (ea_sFitsMore (w, m)) = some (erB 2 (f_sFitsMore (w, m))) := by
  have c0 : ok_sChunksIn w := h
  unfold ea_sFitsMore f_sFitsMore fitsM
  try dsimp only
  rw [pre_sFitsMore]
  simp only [lt_d, ge0_d, Int.toNat_natCast, blt_d, ble_self, beq_self, decide_true, cond_true, Bool.and_self, Bool.and_true, Bool.true_and, gd_true, Nat.zero_add, List.getD_cons_zero, List.getD_cons_succ, isI_int, toI_int, isB_bool, toB_bool, eL_T, arr_ln, arr_fn, arr_wd, arr_is, arr_get, eL_T, Wd.cs, entK_of (dm_sChunksIn c0) (iv_sChunksIn c0), d_sChunksIn]
  by_cases h1 : 0 ≤ m
  · by_cases h2 : m ≤ w.c.chunks
    · simp only [h1, h2, decide_true, cond_true, Bool.true_and]
      rfl
    · simp only [h1, h2, decide_true, decide_false, cond_true, cond_false, Bool.and_false, Bool.false_and]
      rfl
  · simp only [h1, decide_false, cond_false, Bool.false_and]
    rfl
theorem s_sFitsMore : EntOk prog i_sFitsMore e_sFitsMore := ent_ok ea_sFitsMore_inj fun x hx =>
  body_sound (φ := (tabS [(i_sChunksIn, e_sChunksIn)])) (tabS_cons s_sChunksIn tabS_nil) mixed (kp := kp_sFitsMore) (n := 0) func96 (c := bodyOf F_sFitsMore) (by kernel_rfl) (body_sFitsMore x.1 x.2 (0) hx) (name_ok (by kernel_rfl))
def i_iFullFor : Nat := 39
noncomputable abbrev F_iFullFor : Func := f39
def kp_iFullFor : List (Nat × List Nat) := [(0, [4, 8, 9]), (1, [16])]
noncomputable def e_iFullFor : Ent := inl [] prog (tabS [(i_iFitsMore, e_iFitsMore)]) kp_iFullFor 0 F_iFullFor
theorem s_iFullFor : EntOk prog i_iFullFor e_iFullFor := inl_ok (tabS_cons s_iFitsMore tabS_nil) mixed (c := bodyOf F_iFullFor) func39 (by kernel_rfl) (name_ok (by kernel_rfl))
def i_sFullFor : Nat := 38
noncomputable abbrev F_sFullFor : Func := f38
def kp_sFullFor : List (Nat × List Nat) := [(0, [4, 8, 9]), (1, [16])]
noncomputable def e_sFullFor : Ent := inl [] prog (tabS [(i_sFitsMore, e_sFitsMore)]) kp_sFullFor 0 F_sFullFor
theorem s_sFullFor : EntOk prog i_sFullFor e_sFullFor := inl_ok (tabS_cons s_sFitsMore tabS_nil) mixed (c := bodyOf F_sFullFor) func38 (by kernel_rfl) (name_ok (by kernel_rfl))
end Go.Mach.F