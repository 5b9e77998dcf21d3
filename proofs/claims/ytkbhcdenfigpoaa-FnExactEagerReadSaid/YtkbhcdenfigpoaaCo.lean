/- Clone: sound for slices that are nil and for such that are not. Conditions: none. -/
import Derived.Test.YtkbhcdenfigpoaaFb
import Derived.Test.YtkbhcdenfigpoaaCn
set_option linter.all false
namespace Go.Mach.F
open Go Go.Mach Go.Proofs.Try
--=set_option maxRecDepth 100000
theorem plain_I (l : List Int) : plainF (atL rowI l) = atL rowI l := by
  funext j k
  unfold plainF atL
  cases l[j]? with
  | none => rfl
  | some x => cases k <;> rfl
theorem plain_B (l : List UInt8) : plainF (atL rowB l) = atL rowB l := by
  funext j k
  unfold plainF atL
  cases l[j]? with
  | none => rfl
  | some x => cases k <;> rfl
theorem plain_Hd (l : List Hd) : plainF (atL Hd.cs l) = atL Hd.cs l := by
  funext j k
  unfold plainF atL
  cases l[j]? with
  | none => rfl
  | some x => rcases k with _ | _ | k <;> rfl
theorem app0 (f g : Nat → Nat → T) : appF 0 f g = g := by
  funext j k
  unfold appF
  rfl
def i_clB : Nat := 148
def ok_clB (l : List UInt8) : Prop := l.length ≤ LM
def ea_clB (l : List UInt8) : List Arg := [aT (eB l)]
def f_clB (l : List UInt8) : List UInt8 := l
noncomputable def e_clB : Ent := ent [] ok_clB ea_clB (fun l => erT 1 (eB l)) f_clB
theorem ea_clB_inj (x y : List UInt8) (h : ea_clB x = ea_clB y) : x = y := by
  simp only [ea_clB, aT, List.cons.injEq, Prod.mk.injEq, true_and, and_true, C.tr.injEq] at h
  exact eB_inj h
theorem dm_clB {l : List UInt8} (h : ok_clB l) : dom ok_clB ea_clB [(0, false, [C.tr false (T.arr 1 l.length (atL rowB l))])] = true := dom_ea (ea := ea_clB) (x := l) h
theorem iv_clB {l : List UInt8} (h : ok_clB l) : inv ok_clB ea_clB [(0, false, [C.tr false (T.arr 1 l.length (atL rowB l))])] = l := inv_ea ea_clB_inj (x := l) h
theorem d_clB (l : List UInt8) : f_clB l = l := rfl
theorem br_clB (l : List UInt8) : bodyR prog (tabS []) [(0, [0]), (1, [0, 16]), (2, [8]), (3, [8])] 0 f148 (sub (bodyOf f148) [1, 1]) [aT (eB l)] = (
 gd (((0 + l.length) * 1).ble 70368744177664 && (0 + l.length).ble 70368744177664) <|
 gd ((0 + l.length).ble (0 + l.length) && true) <|
 gd ((0 + l.length).ble (0 + l.length) && true) <|
 some ([(false, [.tr true (.arr (1) (0 + l.length) (appF 0 (fun j k => T.hole) (plainF (atL rowB l))))])], [(false, [])])) := by kernel_rfl
theorem s_clB : EntOk prog i_clB e_clB := ent_ok ea_clB_inj fun l hl => by
  have hlm := lm
  have hl' : l.length ≤ LM := hl
  have hb := br_clB l
  simp only [Nat.zero_add, ble_d, Nat.le_refl, decide_true, Bool.and_true, gd_true, app0, plain_B] at hb
  rw [decide_eq_true (show l.length * 1 ≤ 70368744177664 by omega), decide_eq_true (show l.length ≤ 70368744177664 by omega)] at hb
  simp only [Bool.and_true, gd_true] at hb
  refine clone_sound (φ := tabS []) tabS_nil mixed (kp := [(0, [0]), (1, [0, 16]), (2, [8]), (3, [8])]) (n := 0) func148 (name_ok (by kernel_rfl)) (hc := rfl) rfl rfl rfl (fun a w K Q h => wp_value rfl h) (fun a w K Q h => wp_value rfl h) (fun a w K Q Ad k c he h => ?_) (by decide) (fun hk => ?_) hb
  · cases Ad with
    | none => exact wp_value (v := .bool true) (w' := w) (by simp only [execOp, he]; kernel_rfl) h
    | some ad => exact wp_value (v := .bool false) (w' := w) (by simp only [execOp, he]; kernel_rfl) h
  · have : l = [] := List.length_eq_zero_iff.1 hk
    subst this
    have ha : bodyR prog (tabS []) [(0, [0]), (1, [0, 16]), (2, [8]), (3, [8])] 0 f148 (sub (bodyOf f148) [1, 0, 1, 0]) [aT (eB [])] = some ([(false, [.tr true (.arr 1 0 fun _ _ => .hole)])], [(false, [])]) := by kernel_rfl
    exact ha
def i_clH : Nat := 154
def ok_clH (l : List Hd) : Prop := l.length ≤ LM
def ea_clH (l : List Hd) : List Arg := [aT (eL 2 Hd.cs l)]
def f_clH (l : List Hd) : List Hd := l
noncomputable def e_clH : Ent := ent [] ok_clH ea_clH (fun l => erT 1 (eL 2 Hd.cs l)) f_clH
theorem ea_clH_inj (x y : List Hd) (h : ea_clH x = ea_clH y) : x = y := by
  simp only [ea_clH, aT, List.cons.injEq, Prod.mk.injEq, true_and, and_true, C.tr.injEq] at h
  exact eL_inj Hd.cs_inj h
theorem dm_clH {l : List Hd} (h : ok_clH l) : dom ok_clH ea_clH [(0, false, [C.tr false (T.arr 2 l.length (atL Hd.cs l))])] = true := dom_ea (ea := ea_clH) (x := l) h
theorem iv_clH {l : List Hd} (h : ok_clH l) : inv ok_clH ea_clH [(0, false, [C.tr false (T.arr 2 l.length (atL Hd.cs l))])] = l := inv_ea ea_clH_inj (x := l) h
theorem d_clH (l : List Hd) : f_clH l = l := rfl
theorem br_clH (l : List Hd) : bodyR prog (tabS []) [(0, [0]), (1, [0, 16]), (2, [8]), (3, [8])] 0 f154 (sub (bodyOf f154) [1, 1]) [aT (eL 2 Hd.cs l)] = (
 gd (((0 + l.length) * 16).ble 70368744177664 && (0 + l.length).ble 70368744177664) <|
 gd ((0 + l.length).ble (0 + l.length) && true) <|
 gd ((0 + l.length).ble (0 + l.length) && true) <|
 some ([(false, [.tr true (.arr (2) (0 + l.length) (appF 0 (fun j k => T.hole) (plainF (atL Hd.cs l))))])], [(false, [])])) := by kernel_rfl
theorem s_clH : EntOk prog i_clH e_clH := ent_ok ea_clH_inj fun l hl => by
  have hlm := lm
  have hl' : l.length ≤ LM := hl
  have hb := br_clH l
  simp only [Nat.zero_add, ble_d, Nat.le_refl, decide_true, Bool.and_true, gd_true, app0, plain_Hd] at hb
  rw [decide_eq_true (show l.length * 16 ≤ 70368744177664 by omega), decide_eq_true (show l.length ≤ 70368744177664 by omega)] at hb
  simp only [Bool.and_true, gd_true] at hb
  refine clone_sound (φ := tabS []) tabS_nil mixed (kp := [(0, [0]), (1, [0, 16]), (2, [8]), (3, [8])]) (n := 0) func154 (name_ok (by kernel_rfl)) (hc := rfl) rfl rfl rfl (fun a w K Q h => wp_value rfl h) (fun a w K Q h => wp_value rfl h) (fun a w K Q Ad k c he h => ?_) (by decide) (fun hk => ?_) hb
  · cases Ad with
    | none => exact wp_value (v := .bool true) (w' := w) (by simp only [execOp, he]; kernel_rfl) h
    | some ad => exact wp_value (v := .bool false) (w' := w) (by simp only [execOp, he]; kernel_rfl) h
  · have : l = [] := List.length_eq_zero_iff.1 hk
    subst this
    have ha : bodyR prog (tabS []) [(0, [0]), (1, [0, 16]), (2, [8]), (3, [8])] 0 f154 (sub (bodyOf f154) [1, 0, 1, 0]) [aT (eL 2 Hd.cs [])] = some ([(false, [.tr true (.arr 2 0 fun _ _ => .hole)])], [(false, [])]) := by kernel_rfl
    exact ha
def i_clI : Nat := 155
def ok_clI (l : List Int) : Prop := l.length ≤ LM
def ea_clI (l : List Int) : List Arg := [aT (eI l)]
def f_clI (l : List Int) : List Int := l
noncomputable def e_clI : Ent := ent [] ok_clI ea_clI (fun l => erT 1 (eI l)) f_clI
theorem ea_clI_inj (x y : List Int) (h : ea_clI x = ea_clI y) : x = y := by
  simp only [ea_clI, aT, List.cons.injEq, Prod.mk.injEq, true_and, and_true, C.tr.injEq] at h
  exact eI_inj h
theorem dm_clI {l : List Int} (h : ok_clI l) : dom ok_clI ea_clI [(0, false, [C.tr false (T.arr 1 l.length (atL rowI l))])] = true := dom_ea (ea := ea_clI) (x := l) h
theorem iv_clI {l : List Int} (h : ok_clI l) : inv ok_clI ea_clI [(0, false, [C.tr false (T.arr 1 l.length (atL rowI l))])] = l := inv_ea ea_clI_inj (x := l) h
theorem d_clI (l : List Int) : f_clI l = l := rfl
theorem br_clI (l : List Int) : bodyR prog (tabS []) [(0, [0]), (1, [0, 16]), (2, [8]), (3, [8])] 0 f155 (sub (bodyOf f155) [1, 1]) [aT (eI l)] = (
 gd (((0 + l.length) * 8).ble 70368744177664 && (0 + l.length).ble 70368744177664) <|
 gd ((0 + l.length).ble (0 + l.length) && true) <|
 gd ((0 + l.length).ble (0 + l.length) && true) <|
 some ([(false, [.tr true (.arr (1) (0 + l.length) (appF 0 (fun j k => T.hole) (plainF (atL rowI l))))])], [(false, [])])) := by kernel_rfl
theorem s_clI : EntOk prog i_clI e_clI := ent_ok ea_clI_inj fun l hl => by
  have hlm := lm
  have hl' : l.length ≤ LM := hl
  have hb := br_clI l
  simp only [Nat.zero_add, ble_d, Nat.le_refl, decide_true, Bool.and_true, gd_true, app0, plain_I] at hb
  rw [decide_eq_true (show l.length * 8 ≤ 70368744177664 by omega), decide_eq_true (show l.length ≤ 70368744177664 by omega)] at hb
  simp only [Bool.and_true, gd_true] at hb
  refine clone_sound (φ := tabS []) tabS_nil mixed (kp := [(0, [0]), (1, [0, 16]), (2, [8]), (3, [8])]) (n := 0) func155 (name_ok (by kernel_rfl)) (hc := rfl) rfl rfl rfl (fun a w K Q h => wp_value rfl h) (fun a w K Q h => wp_value rfl h) (fun a w K Q Ad k c he h => ?_) (by decide) (fun hk => ?_) hb
  · cases Ad with
    | none => exact wp_value (v := .bool true) (w' := w) (by simp only [execOp, he]; kernel_rfl) h
    | some ad => exact wp_value (v := .bool false) (w' := w) (by simp only [execOp, he]; kernel_rfl) h
  · have : l = [] := List.length_eq_zero_iff.1 hk
    subst this
    have ha : bodyR prog (tabS []) [(0, [0]), (1, [0, 16]), (2, [8]), (3, [8])] 0 f155 (sub (bodyOf f155) [1, 0, 1, 0]) [aT (eI [])] = some ([(false, [.tr true (.arr 1 0 fun _ _ => .hole)])], [(false, [])]) := by kernel_rfl
    exact ha
end Go.Mach.F