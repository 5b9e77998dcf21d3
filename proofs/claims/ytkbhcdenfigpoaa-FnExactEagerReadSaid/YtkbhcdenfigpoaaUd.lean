/- EagerRead. Conditions: none. -/
import Derived.Test.YtkbhcdenfigpoaaUc
set_option linter.all false
namespace Go.Mach.F
open Go Go.Mach Go.Proofs.Try
theorem thg_ok {m : Ml} {r : Rf} (h : (thg m r).2 = 0) : (0 ≤ (thg m r).1 ∧ (thg m r).1.toNat < m.rooms.length) ∧ 0 ≤ r.no ∧ r.no.toNat < (m.rooms.getD (thg m r).1.toNat zRm).things.length := by
  unfold thg at h ⊢
  cases hr : refOk r with
  | false =>
    rw [hr] at h
    simp at h
  | true =>
    have hno : 0 ≤ r.no := by
      simp only [refOk, Bool.and_eq_true, decide_eq_true_eq] at hr
      exact hr.2
    rw [hr] at h
    simp only [cond_true] at h ⊢
    by_cases e : rof m.rooms r.h < 0
    · simp only [e, decide_true, cond_true] at h
      simp at h
    · have e1 := rof_lt e
      simp only [e, decide_false, cond_false] at h ⊢
      cases hb : (decide ((m.rooms.getD (rof m.rooms r.h).toNat zRm).ep = r.ep) && decide (r.no < ((m.rooms.getD (rof m.rooms r.h).toNat zRm).things.length : Int))) with
      | false =>
        rw [hb] at h
        simp at h
      | true =>
        simp only [cond_true]
        simp only [Bool.and_eq_true, decide_eq_true_eq] at hb
        exact ⟨e1, hno, by omega⟩
theorem things_get {l : List Sf} {j : Nat} (h : j < l.length) : l[j]? = some (l.getD j ⟨[]⟩) := by
  rw [List.getD_eq_getElem?_getD, List.getElem?_eq_getElem h]
  rfl
theorem body_iEagerRead (m : Ml) (r : Rf) (k c : Int) (n : Nat) (h : ok_iEagerRead (m, r, k, c)) : body prog (tabS [(i_iThg, e_iThg), (i_iGetAt, e_iGetAt)]) kp_iEagerRead n F_iEagerRead (ea_iEagerRead (m, r, k, c)) = some ([oT (eB (f_iEagerRead (m, r, k, c)).1), oT (.int .i64 (f_iEagerRead (m, r, k, c)).2)], [nul, nul, nul, nul]) := by
  have hlm := lm
  obtain ⟨hl, hr⟩ := h
  dsimp only at hl hr
  have c0 : ok_iThg (m, r) := hl
  have r0 : T.arr 1 0 (rowsT []) = T.arr 1 0 (atL rowB []) := by rw [rowsT0 rowB]
  unfold ea_iEagerRead f_iEagerRead erd
  dsimp only
  rw [pre_iEagerRead]
  simp only [eL_T, Ml.cs, Rf.cs]
  rw [entK_of (dm_iThg c0) (iv_iThg c0)]
  simp only [d_iThg, int_ne]
  by_cases e : (thg m r).2 = 0
  case neg =>
    simp only [e, decide_false, Bool.not_false, cond_true, cond_false, r0]
    rfl
  have hk := thg_ok e
  have hx := getD_get hk.1.2
  have ht := things_get hk.2.2
  have hy := hr _ (List.mem_of_getElem? hx)
  have c1 : ok_iGetAt (thB m r, k, c) := hy.2.1.2 _ (List.mem_of_getElem? ht)
  have e0 := hk.1.1
  have e1 := hk.1.2
  have e2 := hk.2.1
  have e3 := hk.2.2
  obtain ⟨x, hxe⟩ : ∃ x, x = m.rooms.getD (thg m r).1.toNat zRm := ⟨_, rfl⟩
  obtain ⟨s, hse⟩ : ∃ s, s = x.things.getD r.no.toNat ⟨[]⟩ := ⟨_, rfl⟩
  have hb : thB m r = s.b := by rw [hse, hxe]; rfl
  rw [← hxe] at hx ht e3
  rw [← hse] at ht
  rw [hb] at c1 ⊢
  simp only [lt_d, ge0_d, Int.toNat_natCast, blt_d, ble_self, beq_self, decide_true, cond_true, Bool.and_self, Bool.and_true, Bool.true_and, gd_true, Nat.zero_add, List.getD_cons_zero, List.getD_cons_succ, isI_int, toI_int, isB_bool, toB_bool, eL_T, arr_ln, arr_fn, arr_wd, arr_is, arr_get, e, e0, e1, e2, e3, Bool.not_true, cond_false, atL_of hx, Rm.cs, atL_of ht, Sf.cs, eL_T]
  rw [entK_of (dm_iGetAt c1) (iv_iGetAt c1)]
  simp only [d_iGetAt, lt_d, ge0_d, Int.toNat_natCast, blt_d, ble_self, beq_self, decide_true, cond_true, Bool.and_self, Bool.and_true, Bool.true_and, gd_true, Nat.zero_add, List.getD_cons_zero, List.getD_cons_succ, isI_int, toI_int, isB_bool, toB_bool, eL_T, arr_ln, arr_fn, arr_wd, arr_is, arr_get, ble_d, Nat.le_refl]
  cases (gat s.b k c).2 with
  | false =>
    simp only [Bool.not_false, cond_true, cond_false, r0]
    rfl
  | true =>
    simp only [Bool.not_true, cond_true, cond_false]
    rfl
theorem s_iEagerRead : EntOk prog i_iEagerRead e_iEagerRead := ent_ok ea_iEagerRead_inj fun x hx =>
  body_sound (φ := (tabS [(i_iThg, e_iThg), (i_iGetAt, e_iGetAt)])) (tabS_cons s_iThg (tabS_cons s_iGetAt tabS_nil)) mixed (kp := kp_iEagerRead) (n := 0) func24 (c := bodyOf F_iEagerRead) (by kernel_rfl) (body_iEagerRead x.1 x.2.1 x.2.2.1 x.2.2.2 (0) hx) (name_ok (by kernel_rfl))
theorem body_sEagerRead (m : Ml) (r : Rf) (k c : Int) (n : Nat) (h : ok_sEagerRead (m, r, k, c)) : body prog (tabS [(i_sThg, e_sThg), (i_sGetAt, e_sGetAt)]) kp_sEagerRead n F_sEagerRead (ea_sEagerRead (m, r, k, c)) = some ([oT (eB (f_sEagerRead (m, r, k, c)).1), oT (.int .i64 (f_sEagerRead (m, r, k, c)).2)], [nul, nul, nul, nul]) := by
  have hlm := lm
  obtain ⟨hl, hr⟩ := h
  dsimp only at hl hr
  have c0 : ok_sThg (m, r) := hl
  have r0 : T.arr 1 0 (rowsT []) = T.arr 1 0 (atL rowB []) := by rw [rowsT0 rowB]
  unfold ea_sEagerRead f_sEagerRead erd
  dsimp only
  rw [pre_sEagerRead]
  simp only [eL_T, Ml.cs, Rf.cs]
  rw [entK_of (dm_sThg c0) (iv_sThg c0)]
  simp only [d_sThg, int_ne]
  by_cases e : (thg m r).2 = 0
  case neg =>
    simp only [e, decide_false, Bool.not_false, cond_true, cond_false, r0]
    rfl
  have hk := thg_ok e
  have hx := getD_get hk.1.2
  have ht := things_get hk.2.2
  have hy := hr _ (List.mem_of_getElem? hx)
  have c1 : ok_sGetAt (thB m r, k, c) := hy.2.1.2 _ (List.mem_of_getElem? ht)
  have e0 := hk.1.1
  have e1 := hk.1.2
  have e2 := hk.2.1
  have e3 := hk.2.2
  obtain ⟨x, hxe⟩ : ∃ x, x = m.rooms.getD (thg m r).1.toNat zRm := ⟨_, rfl⟩
  obtain ⟨s, hse⟩ : ∃ s, s = x.things.getD r.no.toNat ⟨[]⟩ := ⟨_, rfl⟩
  have hb : thB m r = s.b := by rw [hse, hxe]; rfl
  rw [← hxe] at hx ht e3
  rw [← hse] at ht
  rw [hb] at c1 ⊢
  simp only [lt_d, ge0_d, Int.toNat_natCast, blt_d, ble_self, beq_self, decide_true, cond_true, Bool.and_self, Bool.and_true, Bool.true_and, gd_true, Nat.zero_add, List.getD_cons_zero, List.getD_cons_succ, isI_int, toI_int, isB_bool, toB_bool, eL_T, arr_ln, arr_fn, arr_wd, arr_is, arr_get, e, e0, e1, e2, e3, Bool.not_true, cond_false, atL_of hx, Rm.cs, atL_of ht, Sf.cs, eL_T]
  rw [entK_of (dm_sGetAt c1) (iv_sGetAt c1)]
  simp only [d_sGetAt, lt_d, ge0_d, Int.toNat_natCast, blt_d, ble_self, beq_self, decide_true, cond_true, Bool.and_self, Bool.and_true, Bool.true_and, gd_true, Nat.zero_add, List.getD_cons_zero, List.getD_cons_succ, isI_int, toI_int, isB_bool, toB_bool, eL_T, arr_ln, arr_fn, arr_wd, arr_is, arr_get, ble_d, Nat.le_refl]
  cases (gat s.b k c).2 with
  | false =>
    simp only [Bool.not_false, cond_true, cond_false, r0]
    rfl
  | true =>
    simp only [Bool.not_true, cond_true, cond_false]
    rfl
theorem s_sEagerRead : EntOk prog i_sEagerRead e_sEagerRead := ent_ok ea_sEagerRead_inj fun x hx =>
  body_sound (φ := (tabS [(i_sThg, e_sThg), (i_sGetAt, e_sGetAt)])) (tabS_cons s_sThg (tabS_cons s_sGetAt tabS_nil)) mixed (kp := kp_sEagerRead) (n := 0) func21 (c := bodyOf F_sEagerRead) (by kernel_rfl) (body_sEagerRead x.1 x.2.1 x.2.2.1 x.2.2.2 (0) hx) (name_ok (by kernel_rfl))

end Go.Mach.F