/- Where an object is. Conditions: none. -/
import Derived.Test.YtkbhcdenfigpoaaRk
set_option linter.all false
namespace Go.Mach.F
open Go Go.Mach Go.Proofs.Try
theorem body_iThg (m : Ml) (r : Rf) (n : Nat) (h : ok_iThg (m, r)) : body prog (tabS [(i_iROk, e_iROk), (i_iRoomOf, e_iRoomOf)]) kp_iThg n F_iThg (ea_iThg (m, r)) = some ([oT (.int .i64 (f_iThg (m, r)).1), oT (.int .i64 (f_iThg (m, r)).2)], [nul, nul]) := by
  have hlm := lm
  have hl : m.rooms.length ≤ LM := h
  have c0 : ok_iRoomOf (m, r.h) := hl
  unfold ea_iThg f_iThg thg refOk
  dsimp only
  rw [pre_iThg]
  by_cases a1 : 0 ≤ r.h.slot
  case neg =>
    simp only [a1, decide_false, cond_false, Bool.false_and]
    rfl
  by_cases a2 : 1 ≤ r.h.gen
  case neg =>
    simp only [a1, a2, decide_true, decide_false, cond_true, cond_false, Bool.and_false, Bool.false_and]
    rfl
  by_cases a3 : 0 ≤ r.ep
  case neg =>
    simp only [a1, a2, a3, decide_true, decide_false, cond_true, cond_false, Bool.and_false, Bool.false_and, Bool.and_self]
    rfl
  by_cases a4 : 0 ≤ r.no
  case neg =>
    simp only [a1, a2, a3, a4, decide_true, decide_false, cond_true, cond_false, Bool.and_false, Bool.false_and, Bool.and_self, Bool.not_false]
    rfl
  simp only [a1, a2, a3, a4, decide_true, cond_true, Bool.and_self, Bool.not_true, cond_false, eL_T, Ml.cs, Hd.cs, lt_d, ge0_d, Int.toNat_natCast, blt_d, ble_self, beq_self, decide_true, cond_true, Bool.and_self, Bool.and_true, Bool.true_and, gd_true, Nat.zero_add, List.getD_cons_zero, List.getD_cons_succ, isI_int, toI_int, isB_bool, toB_bool, eL_T, arr_ln, arr_fn, arr_wd, arr_is, arr_get]
  rw [entK_of (dm_iRoomOf c0) (iv_iRoomOf c0)]
  simp only [d_iRoomOf]
  by_cases e : rof m.rooms r.h < 0
  · simp only [e, decide_true, cond_true]
    rfl
  · have e1 := rof_lt e
    obtain ⟨x, hre⟩ : ∃ x, x = m.rooms.getD (rof m.rooms r.h).toNat zRm := ⟨_, rfl⟩
    have hx := getD_get e1.2
    rw [← hre] at hx ⊢
    simp only [lt_d, ge0_d, Int.toNat_natCast, blt_d, ble_self, beq_self, decide_true, cond_true, Bool.and_self, Bool.and_true, Bool.true_and, gd_true, Nat.zero_add, List.getD_cons_zero, List.getD_cons_succ, isI_int, toI_int, isB_bool, toB_bool, eL_T, arr_ln, arr_fn, arr_wd, arr_is, arr_get, e, decide_false, cond_false, e1.1, e1.2, atL_of hx, Rm.cs, eL_T, int_ne]
    by_cases e2 : x.ep = r.ep
    · by_cases e3 : r.no < (x.things.length : Int)
      · have e4 : ¬ (x.things.length : Int) ≤ r.no := by omega
        simp only [e2, e3, e4, decide_true, decide_false, Bool.not_true, cond_false, cond_true, Bool.and_self]
        rfl
      · have e4 : (x.things.length : Int) ≤ r.no := by omega
        simp only [e2, e3, e4, decide_true, decide_false, Bool.not_true, cond_false, cond_true, Bool.and_false]
        rfl
    · simp only [e2, decide_false, Bool.not_false, cond_true, cond_false, Bool.false_and]
      rfl
theorem s_iThg : EntOk prog i_iThg e_iThg := ent_ok ea_iThg_inj fun x hx =>
  body_sound (φ := (tabS [(i_iROk, e_iROk), (i_iRoomOf, e_iRoomOf)])) (tabS_cons s_iROk (tabS_cons s_iRoomOf tabS_nil)) mixed (kp := kp_iThg) (n := 0) func77 (c := bodyOf F_iThg) (by kernel_rfl) (body_iThg x.1 x.2 (0) hx) (name_ok (by kernel_rfl))
theorem body_sThg (m : Ml) (r : Rf) (n : Nat) (h : ok_sThg (m, r)) : body prog (tabS [(i_sROk, e_sROk), (i_sRoomOf, e_sRoomOf)]) kp_sThg n F_sThg (ea_sThg (m, r)) = some ([oT (.int .i64 (f_sThg (m, r)).1), oT (.int .i64 (f_sThg (m, r)).2)], [nul, nul]) := by
  have hlm := lm
  have hl : m.rooms.length ≤ LM := h
  have c0 : ok_sRoomOf (m, r.h) := hl
  unfold ea_sThg f_sThg thg refOk
  dsimp only
  rw [pre_sThg]
  by_cases a1 : 0 ≤ r.h.slot
  case neg =>
    simp only [a1, decide_false, cond_false, Bool.false_and]
    rfl
  by_cases a2 : 1 ≤ r.h.gen
  case neg =>
    simp only [a1, a2, decide_true, decide_false, cond_true, cond_false, Bool.and_false, Bool.false_and]
    rfl
  by_cases a3 : 0 ≤ r.ep
  case neg =>
    simp only [a1, a2, a3, decide_true, decide_false, cond_true, cond_false, Bool.and_false, Bool.false_and, Bool.and_self]
    rfl
  by_cases a4 : 0 ≤ r.no
  case neg =>
    simp only [a1, a2, a3, a4, decide_true, decide_false, cond_true, cond_false, Bool.and_false, Bool.false_and, Bool.and_self, Bool.not_false]
    rfl
  simp only [a1, a2, a3, a4, decide_true, cond_true, Bool.and_self, Bool.not_true, cond_false, eL_T, Ml.cs, Hd.cs, lt_d, ge0_d, Int.toNat_natCast, blt_d, ble_self, beq_self, decide_true, cond_true, Bool.and_self, Bool.and_true, Bool.true_and, gd_true, Nat.zero_add, List.getD_cons_zero, List.getD_cons_succ, isI_int, toI_int, isB_bool, toB_bool, eL_T, arr_ln, arr_fn, arr_wd, arr_is, arr_get]
  rw [entK_of (dm_sRoomOf c0) (iv_sRoomOf c0)]
  simp only [d_sRoomOf]
  by_cases e : rof m.rooms r.h < 0
  · simp only [e, decide_true, cond_true]
    rfl
  · have e1 := rof_lt e
    obtain ⟨x, hre⟩ : ∃ x, x = m.rooms.getD (rof m.rooms r.h).toNat zRm := ⟨_, rfl⟩
    have hx := getD_get e1.2
    rw [← hre] at hx ⊢
    simp only [lt_d, ge0_d, Int.toNat_natCast, blt_d, ble_self, beq_self, decide_true, cond_true, Bool.and_self, Bool.and_true, Bool.true_and, gd_true, Nat.zero_add, List.getD_cons_zero, List.getD_cons_succ, isI_int, toI_int, isB_bool, toB_bool, eL_T, arr_ln, arr_fn, arr_wd, arr_is, arr_get, e, decide_false, cond_false, e1.1, e1.2, atL_of hx, Rm.cs, eL_T, int_ne]
    by_cases e2 : x.ep = r.ep
    · by_cases e3 : r.no < (x.things.length : Int)
      · have e4 : ¬ (x.things.length : Int) ≤ r.no := by omega
        simp only [e2, e3, e4, decide_true, decide_false, Bool.not_true, cond_false, cond_true, Bool.and_self]
        rfl
      · have e4 : (x.things.length : Int) ≤ r.no := by omega
        simp only [e2, e3, e4, decide_true, decide_false, Bool.not_true, cond_false, cond_true, Bool.and_false]
        rfl
    · simp only [e2, decide_false, Bool.not_false, cond_true, cond_false, Bool.false_and]
      rfl
theorem s_sThg : EntOk prog i_sThg e_sThg := ent_ok ea_sThg_inj fun x hx =>
  body_sound (φ := (tabS [(i_sROk, e_sROk), (i_sRoomOf, e_sRoomOf)])) (tabS_cons s_sROk (tabS_cons s_sRoomOf tabS_nil)) mixed (kp := kp_sThg) (n := 0) func74 (c := bodyOf F_sThg) (by kernel_rfl) (body_sThg x.1 x.2 (0) hx) (name_ok (by kernel_rfl))

end Go.Mach.F