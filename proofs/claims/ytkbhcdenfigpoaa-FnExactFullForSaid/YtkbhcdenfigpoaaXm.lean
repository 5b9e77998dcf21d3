/- ChunksIn. Conditions: none. -/
import Derived.Test.YtkbhcdenfigpoaaXl
set_option linter.all false
namespace Go.Mach.F
open Go Go.Mach Go.Proofs.Try
theorem body_iChunksIn (w : Wd) (h : ok_iChunksIn w) : body prog (tabS [(i_iRoomsIn, e_iRoomsIn), (i_iOwn, e_iOwn)]) kp_iChunksIn (w.l.length + 1) F_iChunksIn (ea_iChunksIn w) = some (erI 1 (f_iChunksIn w)) := by
  have hlm := lm
  obtain ⟨hl, hu, h1, h2⟩ : w.l.length ≤ LM ∧ upI w.l ∧ w.p.st.length ≤ LM ∧ w.p.own.length ≤ LM := h
  have c0 : ok_iRoomsIn w := ⟨hl, hu⟩
  have hn := rmsN_len w.l w.l.length
  unfold ea_iChunksIn f_iChunksIn
  rw [pre_iChunksIn]
  simp only [lt_d, ge0_d, Int.toNat_natCast, blt_d, ble_self, beq_self, decide_true, cond_true, Bool.and_self, Bool.and_true, Bool.true_and, gd_true, Nat.zero_add, List.getD_cons_zero, List.getD_cons_succ, isI_int, toI_int, isB_bool, toB_bool, eL_T, arr_ln, arr_fn, arr_wd, arr_is, arr_get, eL_T, entK_of (dm_iRoomsIn c0) (iv_iRoomsIn c0), d_iRoomsIn]
  rw [show rmsN w.l w.l.length = rms w.l from rfl] at hn
  rw [show st_iChunksIn_1 w (rms w.l) 0 0 = (fun i : Nat => st_iChunksIn_1 w (rms w.l) (chkN w i) (i : Nat)) 0 from rfl,
    forLoop (rms w.l).length (fun i : Nat => st_iChunksIn_1 w (rms w.l) (chkN w i) (i : Nat)) (ex_iChunksIn_1_1 w (rms w.l) (chk w) (rms w.l).length) 0 (fun i K hi => ?_) (fun K => ?_) _ (by omega)]
  · rw [post_iChunksIn_1_1]
    rfl
  · have c1 : ok_iOwn (w.p, ri (rms w.l) i) := ⟨h1, h2⟩
    rw [round_iChunksIn_1]
    simp (disch := omega) only [lt_d, ge0_d, Int.toNat_natCast, blt_d, ble_self, beq_self, decide_true, cond_true, Bool.and_self, Bool.and_true, Bool.true_and, gd_true, Nat.zero_add, List.getD_cons_zero, List.getD_cons_succ, isI_int, toI_int, isB_bool, toB_bool, eL_T, arr_ln, arr_fn, arr_wd, arr_is, arr_get, eL_T, hi, atL_of (ri_get hi), rowI, wrapS, entK_of (dm_iOwn c1) (iv_iOwn c1), d_iOwn]
    rfl
  · rw [round_iChunksIn_1]
    simp only [lt_d, Nat.lt_irrefl, decide_false, cond_false]
    rfl
theorem s_iChunksIn : EntOk prog i_iChunksIn e_iChunksIn := ent_ok ea_iChunksIn_inj fun x hx =>
  body_sound (φ := (tabS [(i_iRoomsIn, e_iRoomsIn), (i_iOwn, e_iOwn)])) (tabS_cons s_iRoomsIn (tabS_cons s_iOwn tabS_nil)) mixed (kp := kp_iChunksIn) (n := x.l.length + 1) func158 (c := bodyOf F_iChunksIn) (by kernel_rfl) (body_iChunksIn x hx) (name_ok (by kernel_rfl))
theorem body_sChunksIn (w : Wd) (h : ok_sChunksIn w) : body prog (tabS [(i_sRoomsIn, e_sRoomsIn), (i_sOwn, e_sOwn)]) kp_sChunksIn (w.l.length + 1) F_sChunksIn (ea_sChunksIn w) = some (erI 1 (f_sChunksIn w)) := by
  have hlm := lm
  obtain ⟨hl, hu, h1, h2⟩ : w.l.length ≤ LM ∧ upI w.l ∧ w.p.st.length ≤ LM ∧ w.p.own.length ≤ LM := h
  have c0 : ok_sRoomsIn w := ⟨hl, hu⟩
  have hn := rmsN_len w.l w.l.length
  unfold ea_sChunksIn f_sChunksIn
  rw [pre_sChunksIn]
  simp only [lt_d, ge0_d, Int.toNat_natCast, blt_d, ble_self, beq_self, decide_true, cond_true, Bool.and_self, Bool.and_true, Bool.true_and, gd_true, Nat.zero_add, List.getD_cons_zero, List.getD_cons_succ, isI_int, toI_int, isB_bool, toB_bool, eL_T, arr_ln, arr_fn, arr_wd, arr_is, arr_get, eL_T, entK_of (dm_sRoomsIn c0) (iv_sRoomsIn c0), d_sRoomsIn]
  rw [show rmsN w.l w.l.length = rms w.l from rfl] at hn
  rw [show st_sChunksIn_1 w (rms w.l) 0 0 = (fun i : Nat => st_sChunksIn_1 w (rms w.l) (chkN w i) (i : Nat)) 0 from rfl,
    forLoop (rms w.l).length (fun i : Nat => st_sChunksIn_1 w (rms w.l) (chkN w i) (i : Nat)) (ex_sChunksIn_1_1 w (rms w.l) (chk w) (rms w.l).length) 0 (fun i K hi => ?_) (fun K => ?_) _ (by omega)]
  · rw [post_sChunksIn_1_1]
    rfl
  · have c1 : ok_sOwn (w.p, ri (rms w.l) i) := ⟨h1, h2⟩
    rw [round_sChunksIn_1]
    simp (disch := omega) only [lt_d, ge0_d, Int.toNat_natCast, blt_d, ble_self, beq_self, decide_true, cond_true, Bool.and_self, Bool.and_true, Bool.true_and, gd_true, Nat.zero_add, List.getD_cons_zero, List.getD_cons_succ, isI_int, toI_int, isB_bool, toB_bool, eL_T, arr_ln, arr_fn, arr_wd, arr_is, arr_get, eL_T, hi, atL_of (ri_get hi), rowI, wrapS, entK_of (dm_sOwn c1) (iv_sOwn c1), d_sOwn]
    rfl
  · rw [round_sChunksIn_1]
    simp only [lt_d, Nat.lt_irrefl, decide_false, cond_false]
    rfl
theorem s_sChunksIn : EntOk prog i_sChunksIn e_sChunksIn := ent_ok ea_sChunksIn_inj fun x hx =>
  body_sound (φ := (tabS [(i_sRoomsIn, e_sRoomsIn), (i_sOwn, e_sOwn)])) (tabS_cons s_sRoomsIn (tabS_cons s_sOwn tabS_nil)) mixed (kp := kp_sChunksIn) (n := x.l.length + 1) func157 (c := bodyOf F_sChunksIn) (by kernel_rfl) (body_sChunksIn x hx) (name_ok (by kernel_rfl))

end Go.Mach.F