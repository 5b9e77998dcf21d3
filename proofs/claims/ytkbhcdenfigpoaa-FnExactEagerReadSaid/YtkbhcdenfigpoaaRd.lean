/- RoomAt. Conditions: none. -/
import Derived.Test.YtkbhcdenfigpoaaRc
set_option linter.all false
namespace Go.Mach.F
open Go Go.Mach Go.Proofs.Try
theorem rof_lt {l : List Rm} {h : Hd} (h0 : ¬ rof l h < 0) : 0 ≤ rof l h ∧ (rof l h).toNat < l.length := by
  refine ⟨by omega, ?_⟩
  unfold rof at h0 ⊢
  cases hf : (List.range l.length).find? (fun i => decide (l[i]?.map Rm.h = some h)) with
  | some i =>
    have := List.mem_range.1 (List.mem_of_find?_eq_some hf)
    simpa using this
  | none =>
    rw [hf] at h0
    exact absurd (by decide) h0
theorem getD_get {l : List Rm} {k : Nat} (h : k < l.length) : l[k]? = some (l.getD k zRm) := by
  rw [List.getD_eq_getElem?_getD, List.getElem?_eq_getElem h]
  rfl
theorem arr0 {α : Type} (m : Nat) (row : α → List T) : T.arr m 0 (fun _ _ => T.hole) = eL m row ([] : List α) := rfl
theorem body_iRoomAt (m : Ml) (h : Hd) (n : Nat) (h0 : ok_iRoomAt (m, h)) : body prog (tabS [(i_iRoomOf, e_iRoomOf), (i_iRoom, e_iRoom)]) kp_iRoomAt n F_iRoomAt (ea_iRoomAt (m, h)) = some (erR 2 (f_iRoomAt (m, h)).cs) := by
  obtain ⟨hl, hr⟩ := h0
  dsimp only at hl hr
  have c0 : ok_iRoomOf (m, h) := hl
  unfold ea_iRoomAt f_iRoomAt roomAt
  dsimp only
  rw [pre_iRoomAt]
  simp only [lt_d, ge0_d, Int.toNat_natCast, blt_d, ble_self, beq_self, decide_true, cond_true, Bool.and_self, Bool.and_true, Bool.true_and, gd_true, Nat.zero_add, List.getD_cons_zero, List.getD_cons_succ, isI_int, toI_int, isB_bool, toB_bool, eL_T, arr_ln, arr_fn, arr_wd, arr_is, arr_get, eL_T, Ml.cs, Hd.cs, entK_of (dm_iRoomOf c0) (iv_iRoomOf c0), d_iRoomOf]
  by_cases e : rof m.rooms h < 0
  · simp only [e, decide_true, cond_true]
    rfl
  · have e1 := rof_lt e
    obtain ⟨r, hre⟩ : ∃ r, r = m.rooms.getD (rof m.rooms h).toNat zRm := ⟨_, rfl⟩
    have hx := getD_get e1.2
    rw [← hre] at hx ⊢
    have c1 : ok_iRoom r := hr _ (List.mem_of_getElem? hx)
    simp only [lt_d, ge0_d, Int.toNat_natCast, blt_d, ble_self, beq_self, decide_true, cond_true, Bool.and_self, Bool.and_true, Bool.true_and, gd_true, Nat.zero_add, List.getD_cons_zero, List.getD_cons_succ, isI_int, toI_int, isB_bool, toB_bool, eL_T, arr_ln, arr_fn, arr_wd, arr_is, arr_get, e, decide_false, cond_false, e1.1, e1.2, atL_of hx, Rm.cs, eL_T]
    rw [entK_of (dm_iRoom c1) (iv_iRoom c1)]
    simp only [lt_d, ge0_d, Int.toNat_natCast, blt_d, ble_self, beq_self, decide_true, cond_true, Bool.and_self, Bool.and_true, Bool.true_and, gd_true, Nat.zero_add, List.getD_cons_zero, List.getD_cons_succ, isI_int, toI_int, isB_bool, toB_bool, eL_T, arr_ln, arr_fn, arr_wd, arr_is, arr_get, ble_d, Nat.le_refl, eL_T, d_iRoom]
    rfl
theorem s_iRoomAt : EntOk prog i_iRoomAt e_iRoomAt := ent_ok ea_iRoomAt_inj fun x hx =>
  body_sound (φ := (tabS [(i_iRoomOf, e_iRoomOf), (i_iRoom, e_iRoom)])) (tabS_cons s_iRoomOf (tabS_cons s_iRoom tabS_nil)) mixed (kp := kp_iRoomAt) (n := 0) func34 (c := bodyOf F_iRoomAt) (by kernel_rfl) (body_iRoomAt x.1 x.2 (0) hx) (name_ok (by kernel_rfl))
theorem body_sRoomAt (m : Ml) (h : Hd) (n : Nat) (h0 : ok_sRoomAt (m, h)) : body prog (tabS [(i_sRoomOf, e_sRoomOf), (i_sRoom, e_sRoom)]) kp_sRoomAt n F_sRoomAt (ea_sRoomAt (m, h)) = some (erR 2 (f_sRoomAt (m, h)).cs) := by
  obtain ⟨hl, hr⟩ := h0
  dsimp only at hl hr
  have c0 : ok_sRoomOf (m, h) := hl
  unfold ea_sRoomAt f_sRoomAt roomAt
  dsimp only
  rw [pre_sRoomAt]
  simp only [lt_d, ge0_d, Int.toNat_natCast, blt_d, ble_self, beq_self, decide_true, cond_true, Bool.and_self, Bool.and_true, Bool.true_and, gd_true, Nat.zero_add, List.getD_cons_zero, List.getD_cons_succ, isI_int, toI_int, isB_bool, toB_bool, eL_T, arr_ln, arr_fn, arr_wd, arr_is, arr_get, eL_T, Ml.cs, Hd.cs, entK_of (dm_sRoomOf c0) (iv_sRoomOf c0), d_sRoomOf]
  by_cases e : rof m.rooms h < 0
  · simp only [e, decide_true, cond_true]
    rfl
  · have e1 := rof_lt e
    obtain ⟨r, hre⟩ : ∃ r, r = m.rooms.getD (rof m.rooms h).toNat zRm := ⟨_, rfl⟩
    have hx := getD_get e1.2
    rw [← hre] at hx ⊢
    have c1 : ok_sRoom r := hr _ (List.mem_of_getElem? hx)
    simp only [lt_d, ge0_d, Int.toNat_natCast, blt_d, ble_self, beq_self, decide_true, cond_true, Bool.and_self, Bool.and_true, Bool.true_and, gd_true, Nat.zero_add, List.getD_cons_zero, List.getD_cons_succ, isI_int, toI_int, isB_bool, toB_bool, eL_T, arr_ln, arr_fn, arr_wd, arr_is, arr_get, e, decide_false, cond_false, e1.1, e1.2, atL_of hx, Rm.cs, eL_T]
    rw [entK_of (dm_sRoom c1) (iv_sRoom c1)]
    simp only [lt_d, ge0_d, Int.toNat_natCast, blt_d, ble_self, beq_self, decide_true, cond_true, Bool.and_self, Bool.and_true, Bool.true_and, gd_true, Nat.zero_add, List.getD_cons_zero, List.getD_cons_succ, isI_int, toI_int, isB_bool, toB_bool, eL_T, arr_ln, arr_fn, arr_wd, arr_is, arr_get, ble_d, Nat.le_refl, eL_T, d_sRoom]
    rfl
theorem s_sRoomAt : EntOk prog i_sRoomAt e_sRoomAt := ent_ok ea_sRoomAt_inj fun x hx =>
  body_sound (φ := (tabS [(i_sRoomOf, e_sRoomOf), (i_sRoom, e_sRoom)])) (tabS_cons s_sRoomOf (tabS_cons s_sRoom tabS_nil)) mixed (kp := kp_sRoomAt) (n := 0) func32 (c := bodyOf F_sRoomAt) (by kernel_rfl) (body_sRoomAt x.1 x.2 (0) hx) (name_ok (by kernel_rfl))

end Go.Mach.F