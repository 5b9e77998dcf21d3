/- Alive, of the program and of the reference. Conditions: none. -/
import Derived.Test.YtkbhcdenfigpoaaXc
set_option linter.all false
namespace Go.Mach.F
open Go Go.Mach Go.Proofs.Try
theorem body_iAlive (l : List Nd) (k : Int) (h : ok_iAlive (l, k)) : body prog (tabS [(i_iRise, e_iRise)]) kp_iAlive (l.length + 1) F_iAlive (ea_iAlive (l, k)) = some (erB 2 (f_iAlive (l, k))) := by
  have hlm := lm
  obtain ⟨hl, hk, hu⟩ := h
  dsimp only at hl hk hu
  have c0 : ok_iRise (l, k) := ⟨hl, hk⟩
  unfold ea_iAlive f_iAlive
  dsimp only
  rw [pre_iAlive]
  simp only [lt_d, ge0_d, Int.toNat_natCast, blt_d, ble_self, beq_self, decide_true, cond_true, Bool.and_self, Bool.and_true, Bool.true_and, gd_true, Nat.zero_add, List.getD_cons_zero, List.getD_cons_succ, isI_int, toI_int, isB_bool, toB_bool, eL_T, arr_ln, arr_fn, arr_wd, arr_is, arr_get, eL_T, entK_of (dm_iRise c0) (iv_iRise c0), d_iRise]
  have hn := riseN_len (l := l) l.length k
  have hri := riseN_ri (l := l) l.length k
  unfold alv
  obtain ⟨r, hr⟩ : ∃ r, r = riseN l l.length k := ⟨_, rfl⟩
  rw [← hr] at hn hri ⊢
  rw [show st_iAlive_1 l k r 0 = (fun i : Nat => st_iAlive_1 l k r (i : Nat)) 0 from rfl]
  refine (forAny r.length (fun i : Nat => st_iAlive_1 l k r (i : Nat)) (ex_iAlive_1_2 l k r r.length) 0 (badI l r) .ret (by simp) (fun i => ex_iAlive_1_1 l k i) (some (erB 2 false))
      (some (erB 2 (decide (0 < r.length) && decide ((nd l (ri r (r.length - 1))).up = 0)))) (fun i K hi => ?_) (fun K => ?_) (fun i => ?_) ?_ _ (by omega)).trans ?_
  · have h1 := (hri i hi).1
    have hx := nd_get h1.2
    rw [round_iAlive_1]
    have hw : IntKind.i64.wrap ((i : Int) + 1) = ((i + 1 : Nat) : Int) := by rw [IntKind.wrap_i64]; omega
    simp only [lt_d, ge0_d, Int.toNat_natCast, blt_d, ble_self, beq_self, decide_true, cond_true, Bool.and_self, Bool.and_true, Bool.true_and, gd_true, Nat.zero_add, List.getD_cons_zero, List.getD_cons_succ, isI_int, toI_int, isB_bool, toB_bool, eL_T, arr_ln, arr_fn, arr_wd, arr_is, arr_get, hw, hi, decide_eq_true h1.1, decide_eq_true h1.2, atL_of (ri_get hi), rowI, atL_of hx, Nd.cs, int_ne]
    unfold badI
    by_cases e1 : (nd l (ri r i)).st = 1
    · simp only [e1, decide_true, Bool.not_true, Bool.false_or, cond_false]
      by_cases e2 : i + 1 < r.length
      · have h2 := (hri (i + 1) e2).1
        have hy := nd_get h2.2
        simp only [lt_d, ge0_d, Int.toNat_natCast, blt_d, ble_self, beq_self, decide_true, cond_true, Bool.and_self, Bool.and_true, Bool.true_and, gd_true, Nat.zero_add, List.getD_cons_zero, List.getD_cons_succ, isI_int, toI_int, isB_bool, toB_bool, eL_T, arr_ln, arr_fn, arr_wd, arr_is, arr_get, e2, decide_true, cond_true, decide_eq_true h2.1, decide_eq_true h2.2, atL_of (ri_get e2), rowI, atL_of hy, Nd.cs, Bool.true_and, int_ne]
      · simp only [e2, decide_false, cond_false, Bool.false_and]
    · simp only [e1, decide_false, Bool.not_false, Bool.true_or, cond_true]
  · rw [round_iAlive_1]
    simp only [lt_d, Nat.lt_irrefl, decide_false, cond_false]
  · exact post_iAlive_1_1 l k i _
  · rw [post_iAlive_1_2]
    by_cases e0 : 0 < r.length
    · have h1 := (hri (r.length - 1) (by omega)).1
      have hx := nd_get h1.2
      have hw : IntKind.i64.wrap ((r.length : Int) - 1) = ((r.length - 1 : Nat) : Int) := by rw [IntKind.wrap_i64]; omega
      have hb : r.length - 1 < r.length := by omega
      have e0' : (0 : Int) < (r.length : Int) := by omega
      simp only [lt_d, ge0_d, Int.toNat_natCast, blt_d, ble_self, beq_self, decide_true, cond_true, Bool.and_self, Bool.and_true, Bool.true_and, gd_true, Nat.zero_add, List.getD_cons_zero, List.getD_cons_succ, isI_int, toI_int, isB_bool, toB_bool, eL_T, arr_ln, arr_fn, arr_wd, arr_is, arr_get, hw, e0, e0', hb, decide_true, cond_true, decide_eq_true h1.1, decide_eq_true h1.2, atL_of (ri_get hb), rowI, atL_of hx, Nd.cs, int_eq, Bool.true_and]
      rfl
    · have e0' : ¬ (0 : Int) < (r.length : Int) := by omega
      simp only [e0, e0', decide_false, cond_false, Bool.false_and]
      rfl
  · unfold alvR
    cases (List.range r.length).any (badI l r) <;> rfl
theorem s_iAlive : EntOk prog i_iAlive e_iAlive := ent_ok ea_iAlive_inj fun x hx =>
  body_sound (φ := (tabS [(i_iRise, e_iRise)])) (tabS_cons s_iRise tabS_nil) mixed (kp := kp_iAlive) (n := x.1.length + 1) func151 (c := bodyOf F_iAlive) (by kernel_rfl) (body_iAlive x.1 x.2 hx) (name_ok (by kernel_rfl))
def badJ (l : List Nd) (r : List Int) (i : Nat) : Bool := !decide ((nd l (ri r i)).st = 1) || (decide (i + 1 < r.length) && !(decide ((nd l (ri r (i + 1))).st = 1) && decide ((nd l (ri r (i + 1))).ep = (nd l (ri r i)).upEp)))
theorem any_badJ (l : List Nd) (r : List Int) : (List.range r.length).any (badJ l r) = (List.range r.length).any (badI l r) := by
  rw [Bool.eq_iff_iff, List.any_eq_true, List.any_eq_true]
  constructor
  · rintro ⟨i, hi, hb⟩
    have hi' := List.mem_range.1 hi
    by_cases h : i + 1 < r.length ∧ (nd l (ri r i)).st = 1 ∧ ¬ (nd l (ri r (i + 1))).st = 1
    · exact ⟨i + 1, List.mem_range.2 h.1, by simp [badI, h.2.2]⟩
    · refine ⟨i, hi, ?_⟩
      simp only [badI, badJ, Bool.or_eq_true, Bool.and_eq_true, Bool.not_eq_true', Bool.and_eq_false_iff, decide_eq_true_eq, decide_eq_false_iff_not] at hb ⊢
      by_cases h1 : (nd l (ri r i)).st = 1
      · rcases hb with hb | ⟨h2, h3⟩
        · exact .inl hb
        · refine .inr ⟨h2, fun e => ?_⟩
          rcases h3 with h3 | h3
          · exact h ⟨h2, h1, h3⟩
          · exact h3 e.symm
      · exact .inl h1
  · rintro ⟨i, hi, hb⟩
    refine ⟨i, hi, ?_⟩
    simp only [badI, badJ, Bool.or_eq_true, Bool.and_eq_true, Bool.not_eq_true', Bool.and_eq_false_iff, decide_eq_true_eq, decide_eq_false_iff_not] at hb ⊢
    rcases hb with hb | ⟨h2, h3⟩
    · exact .inl hb
    · exact .inr ⟨h2, .inr fun e => h3 e.symm⟩
theorem body_sAlive (l : List Nd) (k : Int) (h : ok_sAlive (l, k)) : body prog (tabS [(i_sRise, e_sRise), (i_l9In, e_l9In)]) kp_sAlive (l.length + 1) F_sAlive (ea_sAlive (l, k)) = some (erB 2 (f_sAlive (l, k))) := by
  have hlm := lm
  obtain ⟨hl, hk, hu⟩ := h
  dsimp only at hl hk hu
  have c0 : ok_sRise (l, k) := ⟨hl, hk⟩
  unfold ea_sAlive f_sAlive
  dsimp only
  rw [pre_sAlive]
  simp only [lt_d, ge0_d, Int.toNat_natCast, blt_d, ble_self, beq_self, decide_true, cond_true, Bool.and_self, Bool.and_true, Bool.true_and, gd_true, Nat.zero_add, List.getD_cons_zero, List.getD_cons_succ, isI_int, toI_int, isB_bool, toB_bool, eL_T, arr_ln, arr_fn, arr_wd, arr_is, arr_get, eL_T, entK_of (dm_sRise c0) (iv_sRise c0), d_sRise]
  have hn := riseN_len (l := l) l.length k
  have hri := riseN_ri (l := l) l.length k
  unfold alv
  obtain ⟨r, hr⟩ : ∃ r, r = riseN l l.length k := ⟨_, rfl⟩
  rw [← hr] at hn hri ⊢
  rw [show st_sAlive_1 l k r 0 = (fun i : Nat => st_sAlive_1 l k r (i : Nat)) 0 from rfl]
  refine (forAny r.length (fun i : Nat => st_sAlive_1 l k r (i : Nat)) (ex_sAlive_1_2 l k r r.length) 0 (badJ l r) .ret (by simp) (fun i => ex_sAlive_1_1 l k i) (some (erB 2 false))
      (some (erB 2 (decide (0 < r.length) && decide ((nd l (ri r (r.length - 1))).up = 0)))) (fun i K hi => ?_) (fun K => ?_) (fun i => ?_) ?_ _ (by omega)).trans ?_
  · have h1 := (hri i hi).1
    have hx := nd_get h1.2
    rw [round_sAlive_1]
    have hw : IntKind.i64.wrap ((i : Int) + 1) = ((i + 1 : Nat) : Int) := by rw [IntKind.wrap_i64]; omega
    simp only [lt_d, ge0_d, Int.toNat_natCast, blt_d, ble_self, beq_self, decide_true, cond_true, Bool.and_self, Bool.and_true, Bool.true_and, gd_true, Nat.zero_add, List.getD_cons_zero, List.getD_cons_succ, isI_int, toI_int, isB_bool, toB_bool, eL_T, arr_ln, arr_fn, arr_wd, arr_is, arr_get, hw, hi, decide_eq_true h1.1, decide_eq_true h1.2, atL_of (ri_get hi), rowI, atL_of hx, Nd.cs, int_ne, int_eq]
    unfold badJ
    by_cases e1 : (nd l (ri r i)).st = 1
    · simp only [e1, decide_true, Bool.not_true, Bool.false_or, cond_false]
      by_cases e2 : i + 1 < r.length
      · have h2 := (hri (i + 1) e2).1
        have hy := nd_get h2.2
        have h3 := (hri i hi).2 e2
        have h4 := hu _ (nd_mem h1.2)
        unfold inI at h4
        have h5 : 1 ≤ (nd l (ri r i)).up ∧ (nd l (ri r i)).up ≤ l.length := by
          rw [IntKind.wrap_i64] at h3
          omega
        simp only [lt_d, ge0_d, Int.toNat_natCast, blt_d, ble_self, beq_self, decide_true, cond_true, Bool.and_self, Bool.and_true, Bool.true_and, gd_true, Nat.zero_add, List.getD_cons_zero, List.getD_cons_succ, isI_int, toI_int, isB_bool, toB_bool, eL_T, arr_ln, arr_fn, arr_wd, arr_is, arr_get, e2, decide_true, cond_true, ← h3, decide_eq_true h5.1, decide_eq_true h5.2, decide_eq_true h2.1, decide_eq_true h2.2, atL_of hy, Nd.cs, Bool.true_and]
        by_cases e3 : (nd l (ri r (i + 1))).st = 1
        · simp only [e3, decide_true, cond_true, Bool.true_and]
        · simp only [e3, decide_false, cond_false, Bool.false_and, Bool.not_false, cond_true]
      · simp only [e2, decide_false, cond_false, Bool.false_and]
    · simp only [e1, decide_false, Bool.not_false, Bool.true_or, cond_true]
  · rw [round_sAlive_1]
    simp only [lt_d, Nat.lt_irrefl, decide_false, cond_false]
  · exact post_sAlive_1_1 l k i _
  · rw [post_sAlive_1_2]
    by_cases e0 : 0 < r.length
    · have h1 := (hri (r.length - 1) (by omega)).1
      have hx := nd_get h1.2
      have hw : IntKind.i64.wrap ((r.length : Int) - 1) = ((r.length - 1 : Nat) : Int) := by rw [IntKind.wrap_i64]; omega
      have hb : r.length - 1 < r.length := by omega
      have e0' : (0 : Int) < (r.length : Int) := by omega
      simp only [lt_d, ge0_d, Int.toNat_natCast, blt_d, ble_self, beq_self, decide_true, cond_true, Bool.and_self, Bool.and_true, Bool.true_and, gd_true, Nat.zero_add, List.getD_cons_zero, List.getD_cons_succ, isI_int, toI_int, isB_bool, toB_bool, eL_T, arr_ln, arr_fn, arr_wd, arr_is, arr_get, hw, e0, e0', hb, decide_true, cond_true, decide_eq_true h1.1, decide_eq_true h1.2, atL_of (ri_get hb), rowI, atL_of hx, Nd.cs, int_eq, Bool.true_and]
      rfl
    · have e0' : ¬ (0 : Int) < (r.length : Int) := by omega
      simp only [e0, e0', decide_false, cond_false, Bool.false_and]
      rfl
  · rw [any_badJ]
    unfold alvR
    cases (List.range r.length).any (badI l r) <;> rfl
theorem s_sAlive : EntOk prog i_sAlive e_sAlive := ent_ok ea_sAlive_inj fun x hx =>
  body_sound (φ := (tabS [(i_sRise, e_sRise), (i_l9In, e_l9In)])) (tabS_cons s_sRise (tabS_cons s_l9In tabS_nil)) mixed (kp := kp_sAlive) (n := x.1.length + 1) func149 (c := bodyOf F_sAlive) (by kernel_rfl) (body_sAlive x.1 x.2 hx) (name_ok (by kernel_rfl))
end Go.Mach.F
