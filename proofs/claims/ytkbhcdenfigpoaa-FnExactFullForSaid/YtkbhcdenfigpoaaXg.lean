/- Index, l7Has. Conditions: none. -/
import Derived.Test.YtkbhcdenfigpoaaXf
set_option linter.all false
namespace Go.Mach.F
open Go Go.Mach Go.Proofs.Try
theorem mem_ri (l : List Int) (k : Int) : k ∈ l ↔ ∃ i, i < l.length ∧ ri l i = k := by
  constructor
  · intro h
    obtain ⟨i, hi, e⟩ := List.getElem_of_mem h
    refine ⟨i, hi, ?_⟩
    have := ri_get hi
    rw [List.getElem?_eq_getElem hi] at this
    rw [← Option.some.inj this, e]
  · rintro ⟨i, hi, e⟩
    rw [← e]
    exact List.mem_of_getElem? (ri_get hi)
theorem idx_has (l : List Int) (k : Int) : decide (0 ≤ idx l k) = has l k := by
  unfold idx has
  cases hf : (List.range l.length).find? (fun i => decide (k = ri l i)) with
  | some i =>
    have h1 := List.mem_range.1 (List.mem_of_find?_eq_some hf)
    have h2 := List.find?_some hf
    simp only [decide_eq_true_eq] at h2
    have : k ∈ l := (mem_ri l k).2 ⟨i, h1, h2.symm⟩
    rw [decide_eq_true this]
    exact decide_eq_true (Int.natCast_nonneg i)
  | none =>
    have h1 := List.find?_eq_none.1 hf
    have : ¬ k ∈ l := fun h => by
      obtain ⟨i, hi, e⟩ := (mem_ri l k).1 h
      have := h1 i (List.mem_range.2 hi)
      simp [e] at this
    rw [decide_eq_false this]
    rfl
theorem body_Index (l : List Int) (k : Int) (h : ok_Index (l, k)) : body prog (tabS []) kp_Index (l.length + 1) F_Index (ea_Index (l, k)) = some (erI 2 (f_Index (l, k))) := by
  have hlm := lm
  have hl : l.length ≤ LM := h
  unfold ea_Index f_Index
  dsimp only
  rw [pre_Index, show st_Index_1 l k 0 = (fun i : Nat => st_Index_1 l k (i : Nat)) 0 from rfl,
    forExit l.length (fun i : Nat => st_Index_1 l k (i : Nat)) (ex_Index_1_2 l k l.length) 0 (fun i => decide (k = ri l i)) .ret (by simp) (fun i => ex_Index_1_1 l k i) (fun i K hi => ?_) (fun K => ?_) _ (Nat.le_refl _)]
  · unfold idx
    cases (List.range l.length).find? (fun i => decide (k = ri l i)) with
    | some i => exact post_Index_1_1 l k i _
    | none => exact post_Index_1_2 l k l.length _
  · rw [round_Index_1]
    simp (disch := omega) only [lt_d, ge0_d, Int.toNat_natCast, blt_d, ble_self, beq_self, decide_true, cond_true, Bool.and_self, Bool.and_true, Bool.true_and, gd_true, Nat.zero_add, List.getD_cons_zero, List.getD_cons_succ, isI_int, toI_int, isB_bool, toB_bool, eL_T, arr_ln, arr_fn, arr_wd, arr_is, arr_get, hi, atL_of (ri_get hi), rowI, wrapS, int_eq]
  · rw [round_Index_1]
    simp only [lt_d, Nat.lt_irrefl, decide_false, cond_false]
theorem body_l7Has (l : List Int) (k : Int) (h : ok_l7Has (l, k)) : body prog (tabS []) kp_l7Has (l.length + 1) F_l7Has (ea_l7Has (l, k)) = some (erB 2 (f_l7Has (l, k))) := by
  have hlm := lm
  have hl : l.length ≤ LM := h
  unfold ea_l7Has f_l7Has
  dsimp only
  rw [pre_l7Has, show st_l7Has_1 l k 0 = (fun i : Nat => st_l7Has_1 l k (i : Nat)) 0 from rfl]
  refine (forAny l.length (fun i : Nat => st_l7Has_1 l k (i : Nat)) (ex_l7Has_1_2 l k l.length) 0 (fun i => decide (ri l i = k)) .ret (by simp) (fun i => ex_l7Has_1_1 l k i) (some (erB 2 true)) (some (erB 2 false)) (fun i K hi => ?_) (fun K => ?_) (fun i => ?_) ?_ _ (Nat.le_refl _)).trans ?_
  · rw [round_l7Has_1]
    simp (disch := omega) only [lt_d, ge0_d, Int.toNat_natCast, blt_d, ble_self, beq_self, decide_true, cond_true, Bool.and_self, Bool.and_true, Bool.true_and, gd_true, Nat.zero_add, List.getD_cons_zero, List.getD_cons_succ, isI_int, toI_int, isB_bool, toB_bool, eL_T, arr_ln, arr_fn, arr_wd, arr_is, arr_get, hi, atL_of (ri_get hi), rowI, wrapS, int_eq]
  · rw [round_l7Has_1]
    simp only [lt_d, Nat.lt_irrefl, decide_false, cond_false]
  · exact post_l7Has_1_1 l k i _
  · exact post_l7Has_1_2 l k l.length _
  · have : (List.range l.length).any (fun i => decide (ri l i = k)) = has l k := by
      unfold has
      rw [Bool.eq_iff_iff, List.any_eq_true, decide_eq_true_eq, mem_ri]
      simp
    rw [this]
    cases has l k <;> rfl
theorem s_Index : EntOk prog i_Index e_Index := ent_ok ea_Index_inj fun x hx =>
  body_sound (φ := (tabS [])) tabS_nil mixed (kp := kp_Index) (n := x.1.length + 1) func150 (c := bodyOf F_Index) (by kernel_rfl) (body_Index x.1 x.2 hx) (name_ok (by kernel_rfl))
theorem s_l7Has : EntOk prog i_l7Has e_l7Has := ent_ok ea_l7Has_inj fun x hx =>
  body_sound (φ := (tabS [])) tabS_nil mixed (kp := kp_l7Has) (n := x.1.length + 1) func81 (c := bodyOf F_l7Has) (by kernel_rfl) (body_l7Has x.1 x.2 hx) (name_ok (by kernel_rfl))
end Go.Mach.F