/- Copies of rooms. Conditions: none. -/
import Derived.Test.YtkbhcdenfigpoaaRa
set_option linter.all false
namespace Go.Mach.F
open Go Go.Mach Go.Proofs.Try
theorem rowsT0 {α : Type} (row : α → List T) : rowsT [] = atL row ([] : List α) := by
  funext j k
  simp [rowsT, atL]
theorem app1g {α : Type} (row : α → List T) (out : List α) (x : α) : appF out.length (atL row out) (rowsT [row x]) = atL row (out ++ [x]) := by
  funext j k
  unfold appF
  rw [blt_d, Bool.cond_decide]
  by_cases h : j < out.length
  · rw [if_pos h]
    unfold atL
    rw [List.getElem?_append_left h]
  · rw [if_neg h]
    unfold atL
    rw [List.getElem?_append_right (by omega)]
    obtain ⟨d, hd⟩ : ∃ d, d = j - out.length := ⟨_, rfl⟩
    rw [← hd]
    cases d with
    | zero => rfl
    | succ d => simp [rowsT]
theorem take_app {α : Type} {l : List α} {i : Nat} {x : α} (row : α → List T) (h : l[i]? = some x) : appF i (atL row (l.take i)) (rowsT [row x]) = atL row (l.take (i + 1)) := by
  have hi : i < l.length := (List.getElem?_eq_some_iff.1 h).1
  have := app1g row (l.take i) x
  rw [List.length_take, show min i l.length = i by omega] at this
  rw [this, List.take_add_one, h]
  rfl
theorem body_iRoom (r : Rm) (h : ok_iRoom r) : body prog (tabS [(i_clB, e_clB), (i_clH, e_clH), (i_clI, e_clI)]) kp_iRoom (r.things.length + 1) F_iRoom (ea_iRoom r) = some (erR 1 (f_iRoom r).cs) := by
  have hlm := lm
  obtain ⟨h0, h1, h2⟩ : ok_HdS r.kids ∧ ok_SfS r.things ∧ ok_LI r.tags := h
  have hl : r.things.length ≤ LM := h1.1
  unfold ea_iRoom f_iRoom
  rw [pre_iRoom]
  have hst : st_iRoom_1 r 0 (rowsT []) 0 = (fun i : Nat => st_iRoom_1 r i (atL Sf.cs (r.things.take i)) (i : Nat)) 0 := by
    rw [rowsT0 Sf.cs]
    rfl
  rw [hst, forLoop r.things.length (fun i : Nat => st_iRoom_1 r i (atL Sf.cs (r.things.take i)) (i : Nat)) (ex_iRoom_1_1 r r.things.length (atL Sf.cs r.things) r.things.length) 0 (fun i K hi => ?_) (fun K => ?_) _ (Nat.le_refl _)]
  · have c1 : ok_clH r.kids := h0.1
    have c2 : ok_clI r.tags := h2
    rw [post_iRoom_1_1]
    simp only [lt_d, ge0_d, Int.toNat_natCast, blt_d, ble_self, beq_self, decide_true, cond_true, Bool.and_self, Bool.and_true, Bool.true_and, gd_true, Nat.zero_add, List.getD_cons_zero, List.getD_cons_succ, isI_int, toI_int, isB_bool, toB_bool, eL_T, arr_ln, arr_fn, arr_wd, arr_is, arr_get, eL_T, ble_d, Nat.le_refl, entK_of (dm_clH c1) (iv_clH c1), d_clH, entK_of (dm_clI c2) (iv_clI c2), d_clI]
    rfl
  · have hx := List.getElem?_eq_getElem hi
    obtain ⟨x, hxe⟩ : ∃ x, x = r.things[i] := ⟨_, rfl⟩
    rw [← hxe] at hx
    have c0 : ok_clB x.b := h1.2 _ (List.mem_of_getElem? hx)
    rw [round_iRoom_1, ← take_app Sf.cs hx]
    have hs : (i + 1) * 24 ≤ 70368744177664 := by omega
    have hs2 : i + 1 ≤ 70368744177664 := by omega
    simp (disch := omega) only [lt_d, ge0_d, Int.toNat_natCast, blt_d, ble_self, beq_self, decide_true, cond_true, Bool.and_self, Bool.and_true, Bool.true_and, gd_true, Nat.zero_add, List.getD_cons_zero, List.getD_cons_succ, isI_int, toI_int, isB_bool, toB_bool, eL_T, arr_ln, arr_fn, arr_wd, arr_is, arr_get, eL_T, ble_d, Nat.le_refl, hi, hs, hs2, atL_of hx, Sf.cs, wrapS, entK_of (dm_clB c0) (iv_clB c0), d_clB]
  · rw [round_iRoom_1]
    simp only [lt_d, Nat.lt_irrefl, decide_false, cond_false, List.take_length]
theorem s_iRoom : EntOk prog i_iRoom e_iRoom := ent_ok ea_iRoom_inj fun x hx =>
  body_sound (φ := (tabS [(i_clB, e_clB), (i_clH, e_clH), (i_clI, e_clI)])) (tabS_cons s_clB (tabS_cons s_clH (tabS_cons s_clI tabS_nil))) mixed (kp := kp_iRoom) (n := x.things.length + 1) func88 (c := bodyOf F_iRoom) (by kernel_rfl) (body_iRoom x hx) (name_ok (by kernel_rfl))
theorem body_sRoom (r : Rm) (h : ok_sRoom r) : body prog (tabS []) kp_sRoom (r.things.length + 1) F_sRoom (ea_sRoom r) = some (erR 1 (f_sRoom r).cs) := by
  have hlm := lm
  obtain ⟨h0, h1, h2⟩ : ok_HdS r.kids ∧ ok_SfS r.things ∧ ok_LI r.tags := h
  have hl : r.things.length ≤ LM := h1.1
  have hk : r.kids.length ≤ LM := h0.1
  have ht : r.tags.length ≤ LM := h2
  unfold ea_sRoom f_sRoom
  rw [pre_sRoom]
  have q1 : r.kids.length * 16 ≤ 70368744177664 := by omega
  have q2 : r.kids.length ≤ 70368744177664 := by omega
  have q3 : r.tags.length * 8 ≤ 70368744177664 := by omega
  have q4 : r.tags.length ≤ 70368744177664 := by omega
  simp only [lt_d, ge0_d, Int.toNat_natCast, blt_d, ble_self, beq_self, decide_true, cond_true, Bool.and_self, Bool.and_true, Bool.true_and, gd_true, Nat.zero_add, List.getD_cons_zero, List.getD_cons_succ, isI_int, toI_int, isB_bool, toB_bool, eL_T, arr_ln, arr_fn, arr_wd, arr_is, arr_get, ble_d, Nat.le_refl, q1, q2, q3, q4]
  have hst : st_sRoom_1 r 0 (rowsT []) 0 = (fun i : Nat => st_sRoom_1 r i (atL Sf.cs (r.things.take i)) (i : Nat)) 0 := by
    rw [rowsT0 Sf.cs]
    rfl
  rw [hst, forLoop r.things.length (fun i : Nat => st_sRoom_1 r i (atL Sf.cs (r.things.take i)) (i : Nat)) (ex_sRoom_1_1 r r.things.length (atL Sf.cs r.things) r.things.length) 0 (fun i K hi => ?_) (fun K => ?_) _ (Nat.le_refl _)]
  · rw [post_sRoom_1_1]
    have e1 : appF 0 (rowsT []) (plainF (atL Hd.cs r.kids)) = atL Hd.cs r.kids := by rw [plain_Hd, app0]
    have e2 : appF 0 (rowsT []) (plainF (atL rowI r.tags)) = atL rowI r.tags := by rw [plain_I, app0]
    simp only [lt_d, ge0_d, Int.toNat_natCast, blt_d, ble_self, beq_self, decide_true, cond_true, Bool.and_self, Bool.and_true, Bool.true_and, gd_true, Nat.zero_add, List.getD_cons_zero, List.getD_cons_succ, isI_int, toI_int, isB_bool, toB_bool, eL_T, arr_ln, arr_fn, arr_wd, arr_is, arr_get, ble_d, Nat.le_refl, e1, e2]
    rfl
  · have hx := List.getElem?_eq_getElem hi
    obtain ⟨x, hxe⟩ : ∃ x, x = r.things[i] := ⟨_, rfl⟩
    rw [← hxe] at hx
    have c0 : x.b.length ≤ LM := h1.2 _ (List.mem_of_getElem? hx)
    rw [round_sRoom_1, ← take_app Sf.cs hx]
    have hs : (i + 1) * 24 ≤ 70368744177664 := by omega
    have hs2 : i + 1 ≤ 70368744177664 := by omega
    have hs3 : x.b.length * 1 ≤ 70368744177664 := by omega
    have hs4 : x.b.length ≤ 70368744177664 := by omega
    have e1 : appF 0 (rowsT []) (plainF (atL rowB x.b)) = atL rowB x.b := by rw [plain_B, app0]
    simp (disch := omega) only [lt_d, ge0_d, Int.toNat_natCast, blt_d, ble_self, beq_self, decide_true, cond_true, Bool.and_self, Bool.and_true, Bool.true_and, gd_true, Nat.zero_add, List.getD_cons_zero, List.getD_cons_succ, isI_int, toI_int, isB_bool, toB_bool, eL_T, arr_ln, arr_fn, arr_wd, arr_is, arr_get, eL_T, ble_d, Nat.le_refl, hi, hs, hs2, hs3, hs4, atL_of hx, Sf.cs, wrapS, e1]
  · rw [round_sRoom_1]
    simp only [lt_d, Nat.lt_irrefl, decide_false, cond_false, List.take_length]
theorem s_sRoom : EntOk prog i_sRoom e_sRoom := ent_ok ea_sRoom_inj fun x hx =>
  body_sound (φ := (tabS [])) tabS_nil mixed (kp := kp_sRoom) (n := x.things.length + 1) func86 (c := bodyOf F_sRoom) (by kernel_rfl) (body_sRoom x hx) (name_ok (by kernel_rfl))
end Go.Mach.F