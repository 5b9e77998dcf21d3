/- GetAt. Conditions: none. -/
import Derived.Test.YtkbhcdenfigpoaaTc
set_option linter.all false
namespace Go.Mach.F
open Go Go.Mach Go.Proofs.Try
theorem gat_false {l : List UInt8} {k c : Int} (h1 : ¬ (0 ≤ c ∧ c ≤ (l.length : Int) ∧ 0 ≤ k ∧ k ≤ (l.length : Int) - c)) : ((decide (0 ≤ c) && decide (c ≤ (l.length : Int))) && (decide (0 ≤ k) && decide (k ≤ (l.length : Int) - c))) = false := by
  cases hb : ((decide (0 ≤ c) && decide (c ≤ (l.length : Int))) && (decide (0 ≤ k) && decide (k ≤ (l.length : Int) - c))) with
  | false => rfl
  | true =>
    simp only [Bool.and_eq_true, decide_eq_true_eq] at hb
    exact absurd ⟨hb.1.1, hb.1.2, hb.2.1, hb.2.2⟩ h1
theorem body_iGetAt (l : List UInt8) (k c : Int) (n : Nat) (h : ok_iGetAt (l, k, c)) : body prog (tabS [(i_ihas, e_ihas), (i_clB, e_clB)]) kp_iGetAt n F_iGetAt (ea_iGetAt (l, k, c)) = some ([oT (eB (f_iGetAt (l, k, c)).1), oT (.bool (f_iGetAt (l, k, c)).2)], [nul, nul, nul]) := by
  have hlm := lm
  have hl : l.length ≤ LM := h
  unfold ea_iGetAt f_iGetAt gat
  dsimp only
  rw [pre_iGetAt]
  by_cases h1 : 0 ≤ c ∧ c ≤ (l.length : Int) ∧ 0 ≤ k ∧ k ≤ (l.length : Int) - c
  · obtain ⟨a1, a2, a3, a4⟩ := h1
    have a5 : k ≤ (l.length : Int) := by omega
    have a6 : c ≤ (l.length : Int) - k := by omega
    have w1 : IntKind.i64.wrap ((l.length : Int) - c) = (l.length : Int) - c := by rw [IntKind.wrap_i64]; omega
    have w2 : IntKind.i64.wrap ((l.length : Int) - k) = (l.length : Int) - k := by rw [IntKind.wrap_i64]; omega
    have w3 : IntKind.i64.wrap (k + c) = k + c := by rw [IntKind.wrap_i64]; omega
    have a7 : k ≤ k + c := by omega
    have a8 : k + c ≤ (l.length : Int) := by omega
    have w4 : (k + c).toNat - k.toNat = c.toNat := by omega
    have hc := cut_eL (m := 1) (row := rowB) (l := l) (s := k.toNat) (n := c.toNat) (by omega)
    have hle : ((l.drop k.toNat).take c.toNat).length = c.toNat := by simp; omega
    simp only [eL_T, arr_fn, hle] at hc
    injection hc with _ _ hc
    have c0 : ok_clB ((l.drop k.toNat).take c.toNat) := by unfold ok_clB; rw [hle]; omega
    have s1 : c.toNat * 1 ≤ 70368744177664 := by omega
    have s2 : c.toNat ≤ 70368744177664 := by omega
    have e1 : appF 0 (rowsT []) (plainF (atL rowB ((l.drop k.toNat).take c.toNat))) = atL rowB ((l.drop k.toNat).take c.toNat) := by rw [plain_B, app0]
    simp only [a1, a2, a3, a4, a5, a6, a7, a8, w1, w2, w3, w4, decide_true, cond_true, Bool.and_self, Bool.not_true, cond_false, lt_d, ge0_d, Int.toNat_natCast, blt_d, ble_self, beq_self, decide_true, cond_true, Bool.and_self, Bool.and_true, Bool.true_and, gd_true, Nat.zero_add, List.getD_cons_zero, List.getD_cons_succ, isI_int, toI_int, isB_bool, toB_bool, eL_T, arr_ln, arr_fn, arr_wd, arr_is, arr_get, hc, ble_d, s1, s2, Nat.le_refl, e1]
    have d1 := dm_clB c0
    have d2 := iv_clB c0
    rw [hle] at d1 d2
    rw [entK_of d1 d2]
    simp only [d_clB, lt_d, ge0_d, Int.toNat_natCast, blt_d, ble_self, beq_self, decide_true, cond_true, Bool.and_self, Bool.and_true, Bool.true_and, gd_true, Nat.zero_add, List.getD_cons_zero, List.getD_cons_succ, isI_int, toI_int, isB_bool, toB_bool, eL_T, arr_ln, arr_fn, arr_wd, arr_is, arr_get, ble_d, Nat.le_refl, hle]
    simp only [oT, eL_T, hle]
    rfl
  · rw [gat_false h1]
    by_cases a1 : 0 ≤ c
    case neg =>
      simp only [a1, decide_false, cond_false]
      rfl
    by_cases a2 : c ≤ (l.length : Int)
    case neg =>
      simp only [a1, a2, decide_true, decide_false, cond_true, cond_false]
      rfl
    by_cases a3 : 0 ≤ k
    case neg =>
      simp only [a1, a2, a3, decide_true, decide_false, cond_true, cond_false]
      rfl
    have w1 : IntKind.i64.wrap ((l.length : Int) - c) = (l.length : Int) - c := by rw [IntKind.wrap_i64]; omega
    have a4 : ¬ k ≤ (l.length : Int) - c := fun e => h1 ⟨a1, a2, a3, e⟩
    simp only [a1, a2, a3, w1, a4, decide_true, decide_false, cond_true, cond_false, Bool.not_false]
    rfl
theorem s_iGetAt : EntOk prog i_iGetAt e_iGetAt := ent_ok ea_iGetAt_inj fun x hx =>
  body_sound (φ := (tabS [(i_ihas, e_ihas), (i_clB, e_clB)])) (tabS_cons s_ihas (tabS_cons s_clB tabS_nil)) mixed (kp := kp_iGetAt) (n := 0) func78 (c := bodyOf F_iGetAt) (by kernel_rfl) (body_iGetAt x.1 x.2.1 x.2.2 (0) hx) (name_ok (by kernel_rfl))
theorem body_sGetAt (l : List UInt8) (k c : Int) (n : Nat) (h : ok_sGetAt (l, k, c)) : body prog (tabS [(i_l2There, e_l2There)]) kp_sGetAt n F_sGetAt (ea_sGetAt (l, k, c)) = some ([oT (eB (f_sGetAt (l, k, c)).1), oT (.bool (f_sGetAt (l, k, c)).2)], [nul, nul, nul]) := by
  have hlm := lm
  have hl : l.length ≤ LM := h
  unfold ea_sGetAt f_sGetAt gat
  dsimp only
  rw [pre_sGetAt]
  by_cases h1 : 0 ≤ c ∧ c ≤ (l.length : Int) ∧ 0 ≤ k ∧ k ≤ (l.length : Int) - c
  · obtain ⟨a1, a2, a3, a4⟩ := h1
    have a5 : k ≤ (l.length : Int) := by omega
    have a6 : c ≤ (l.length : Int) - k := by omega
    have w1 : IntKind.i64.wrap ((l.length : Int) - c) = (l.length : Int) - c := by rw [IntKind.wrap_i64]; omega
    have w2 : IntKind.i64.wrap ((l.length : Int) - k) = (l.length : Int) - k := by rw [IntKind.wrap_i64]; omega
    have w3 : IntKind.i64.wrap (k + c) = k + c := by rw [IntKind.wrap_i64]; omega
    have a7 : k ≤ k + c := by omega
    have a8 : k + c ≤ (l.length : Int) := by omega
    have w4 : (k + c).toNat - k.toNat = c.toNat := by omega
    have hc := cut_eL (m := 1) (row := rowB) (l := l) (s := k.toNat) (n := c.toNat) (by omega)
    have hle : ((l.drop k.toNat).take c.toNat).length = c.toNat := by simp; omega
    simp only [eL_T, arr_fn, hle] at hc
    injection hc with _ _ hc
    have c0 : ok_clB ((l.drop k.toNat).take c.toNat) := by unfold ok_clB; rw [hle]; omega
    have s1 : c.toNat * 1 ≤ 70368744177664 := by omega
    have s2 : c.toNat ≤ 70368744177664 := by omega
    have e1 : appF 0 (rowsT []) (plainF (atL rowB ((l.drop k.toNat).take c.toNat))) = atL rowB ((l.drop k.toNat).take c.toNat) := by rw [plain_B, app0]
    simp only [a1, a2, a3, a4, a5, a6, a7, a8, w1, w2, w3, w4, decide_true, cond_true, Bool.and_self, Bool.not_true, cond_false, lt_d, ge0_d, Int.toNat_natCast, blt_d, ble_self, beq_self, decide_true, cond_true, Bool.and_self, Bool.and_true, Bool.true_and, gd_true, Nat.zero_add, List.getD_cons_zero, List.getD_cons_succ, isI_int, toI_int, isB_bool, toB_bool, eL_T, arr_ln, arr_fn, arr_wd, arr_is, arr_get, hc, ble_d, s1, s2, Nat.le_refl, e1]
    simp only [oT, eL_T, hle]
    rfl
  · rw [gat_false h1]
    have r0 : T.arr 1 0 (rowsT []) = T.arr 1 0 (atL rowB []) := by rw [rowsT0 rowB]
    by_cases a3 : 0 ≤ k
    case neg =>
      simp only [a3, decide_false, cond_false, r0]
      rfl
    by_cases a1 : 0 ≤ c
    case neg =>
      simp only [a1, a3, decide_true, decide_false, cond_true, cond_false, r0]
      rfl
    by_cases a5 : k ≤ (l.length : Int)
    case neg =>
      simp only [a1, a3, a5, decide_true, decide_false, cond_true, cond_false, r0]
      rfl
    have w2 : IntKind.i64.wrap ((l.length : Int) - k) = (l.length : Int) - k := by rw [IntKind.wrap_i64]; omega
    have a6 : ¬ c ≤ (l.length : Int) - k := fun e => h1 ⟨a1, by omega, a3, by omega⟩
    simp only [a1, a3, a5, w2, a6, decide_true, decide_false, cond_true, cond_false, Bool.not_false, r0]
    rfl
theorem s_sGetAt : EntOk prog i_sGetAt e_sGetAt := ent_ok ea_sGetAt_inj fun x hx =>
  body_sound (φ := (tabS [(i_l2There, e_l2There)])) (tabS_cons s_l2There tabS_nil) mixed (kp := kp_sGetAt) (n := 0) func75 (c := bodyOf F_sGetAt) (by kernel_rfl) (body_sGetAt x.1 x.2.1 x.2.2 (0) hx) (name_ok (by kernel_rfl))

end Go.Mach.F