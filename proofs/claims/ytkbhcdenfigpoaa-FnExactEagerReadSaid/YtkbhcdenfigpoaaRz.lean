/- Held marks of rooms and models. Conditions: none. -/
import Derived.Test.YtkbhcdenfigpoaaRy
set_option linter.all false
namespace Go.Mach.F
open Go Go.Mach Go.Proofs.Try
--=set_option maxRecDepth 100000
def ok_hdRm (x : Rm × Int) : Prop := okh_HdS (x.1.kids, x.2) ∧ okh_SfS (x.1.things, x.2 + cntL c1_HdS x.1.kids) ∧ okh_LI (x.1.tags, x.2 + cntL c1_HdS x.1.kids + cntL c1_SfS x.1.things)
def ea_hdRm (x : Rm × Int) : List Arg := [aR x.1.cs, aI x.2]
def f_hdRm (x : Rm × Int) : Int := (if x.1.kids = mk_HdS x.1.kids (x.2) then (if x.1.things = mk_SfS x.1.things (x.2 + cntL c1_HdS x.1.kids) then (if x.1.tags = mk_LI x.1.tags (x.2 + cntL c1_HdS x.1.kids + cntL c1_SfS x.1.things) then x.2 + cntL c1_HdS x.1.kids + cntL c1_SfS x.1.things + cntL c1_LI x.1.tags else -1) else -1) else -1)
noncomputable def e_hdRm : Ent := ent [] ok_hdRm ea_hdRm (erI 2) f_hdRm
theorem ea_hdRm_inj (x y : Rm × Int) (h : ea_hdRm x = ea_hdRm y) : x = y := by
  obtain ⟨l1, k1⟩ := x
  obtain ⟨l2, k2⟩ := y
  simp only [ea_hdRm, List.cons.injEq, and_true, true_and] at h
  obtain ⟨e0, e1⟩ := h
  obtain rfl := Rm.cs_ext (aR_inj e0)
  obtain rfl := aI_inj e1
  rfl
theorem dm_hdRm {l : Rm} {k : Int} (h : ok_hdRm (l, k)) : dom ok_hdRm ea_hdRm [(0, true, [C.tr false (T.int IntKind.i64 l.h.slot), C.tr false (T.int IntKind.i64 l.h.gen), C.tr false (T.int IntKind.i64 l.up.slot), C.tr false (T.int IntKind.i64 l.up.gen), C.tr false (T.arr 2 l.kids.length (atL Hd.cs l.kids)), C.tr false (T.int IntKind.i64 l.ep), C.tr false (T.int IntKind.i64 l.chunks), C.tr false (T.bool l.cur), C.tr false (T.int IntKind.i64 l.bump), C.tr false (T.arr 1 l.things.length (atL Sf.cs l.things)), C.tr false (T.arr 1 l.tags.length (atL rowI l.tags))]), (0, false, [C.tr false (T.int IntKind.i64 k)])] = true := dom_ea (ea := ea_hdRm) (x := (l, k)) h
theorem iv_hdRm {l : Rm} {k : Int} (h : ok_hdRm (l, k)) : inv ok_hdRm ea_hdRm [(0, true, [C.tr false (T.int IntKind.i64 l.h.slot), C.tr false (T.int IntKind.i64 l.h.gen), C.tr false (T.int IntKind.i64 l.up.slot), C.tr false (T.int IntKind.i64 l.up.gen), C.tr false (T.arr 2 l.kids.length (atL Hd.cs l.kids)), C.tr false (T.int IntKind.i64 l.ep), C.tr false (T.int IntKind.i64 l.chunks), C.tr false (T.bool l.cur), C.tr false (T.int IntKind.i64 l.bump), C.tr false (T.arr 1 l.things.length (atL Sf.cs l.things)), C.tr false (T.arr 1 l.tags.length (atL rowI l.tags))]), (0, false, [C.tr false (T.int IntKind.i64 k)])] = (l, k) := inv_ea ea_hdRm_inj (x := (l, k)) h
theorem d_hdRm (l : Rm) (k : Int) : f_hdRm (l, k) = (if l.kids = mk_HdS l.kids (k) then (if l.things = mk_SfS l.things (k + cntL c1_HdS l.kids) then (if l.tags = mk_LI l.tags (k + cntL c1_HdS l.kids + cntL c1_SfS l.things) then k + cntL c1_HdS l.kids + cntL c1_SfS l.things + cntL c1_LI l.tags else -1) else -1) else -1) := rfl
def i_hdRm : Nat := 37
noncomputable abbrev F_hdRm : Func := f37
def kp_hdRm : List (Nat × List Nat) := [(0, [4, 8, 9]), (1, [4, 8, 9]), (2, [4, 8, 9, 40]), (3, [16]), (4, [4, 8, 9]), (5, [4, 8, 9, 64]), (6, [16]), (7, [4]), (8, [4, 88]), (9, [16]), (10, [16])]
def ts_hdRm : List Nat := [0, 0]
theorem pre_hdRm (l : Rm) (k : Int) (n : Nat) : body prog (tabS [(i_hdHdS, e_hdHdS), (i_hdSfS, e_hdSfS), (i_hdLI, e_hdLI)]) kp_hdRm n F_hdRm [aR l.cs, aI k] = (
 entK okh_HdS eah_HdS (f_hdHdS) [(0, false, [C.tr false (eL 2 Hd.cs l.3)]), (0, false, [C.tr false (T.int IntKind.i64 k)])] fun (r1 : Int) =>
 bif decide (r1 < 0) then
  some ([(false, [.tr true (T.int IntKind.i64 (-1))])], [(false, []), (false, [])])
 else
 entK okh_SfS eah_SfS (f_hdSfS) [(0, false, [C.tr false (eL 1 Sf.cs l.8)]), (0, false, [C.tr false (T.int IntKind.i64 r1)])] fun (r2 : Int) =>
 bif decide (r2 < 0) then
  some ([(false, [.tr true (T.int IntKind.i64 (-1))])], [(false, []), (false, [])])
 else
 entK okh_LI eah_LI (f_hdLI) [(0, false, [C.tr false (eL 1 rowI l.9)]), (0, false, [C.tr false (T.int IntKind.i64 r2)])] fun (r3 : Int) =>
 bif decide (r3 < 0) then
  some ([(false, [.tr true (T.int IntKind.i64 (-1))])], [(false, []), (false, [])])
 else
 some ([(false, [.tr true (T.int IntKind.i64 r3)])], [(false, []), (false, [])])) := by kernel_rfl
theorem body_hdRm (l : Rm) (k : Int) (n : Nat) (h : ok_hdRm (l, k)) : body prog (tabS [(i_hdHdS, e_hdHdS), (i_hdSfS, e_hdSfS), (i_hdLI, e_hdLI)]) kp_hdRm n F_hdRm (ea_hdRm (l, k)) = some (erI 2 (f_hdRm (l, k))) := by
  have hbm := bm
  have y0 : okh_HdS (l.kids, k) := h.1
  have z0 := y0.2.1
  have w0 := y0.2.2
  dsimp only at z0 w0
  have y1 : okh_SfS (l.things, k + cntL c1_HdS l.kids) := h.2.1
  have z1 := y1.2.1
  have w1 := y1.2.2
  dsimp only at z1 w1
  have y2 : okh_LI (l.tags, k + cntL c1_HdS l.kids + cntL c1_SfS l.things) := h.2.2
  have z2 := y2.2.1
  have w2 := y2.2.2
  dsimp only at z2 w2
  unfold ea_hdRm f_hdRm
  try dsimp only
  rw [pre_hdRm]
  simp only [lt_d, ge0_d, Int.toNat_natCast, blt_d, ble_self, beq_self, decide_true, cond_true, Bool.and_self, Bool.and_true, Bool.true_and, gd_true, Nat.zero_add, List.getD_cons_zero, List.getD_cons_succ, isI_int, toI_int, isB_bool, toB_bool, eL_T, arr_ln, arr_fn, arr_wd, arr_is, arr_get, eL_T, Rm.cs]
  rw [entK_of (dm_hdHdS y0) (iv_hdHdS y0)]
  by_cases e0 : l.kids = mk_HdS l.kids (k)
  case neg =>
    simp only [n_hdHdS e0, if_neg e0, decide_eq_true (show (-1 : Int) < 0 by omega), cond_true]
    rfl
  rw [y_hdHdS e0, if_pos e0]
  simp only [lt_d, ge0_d, Int.toNat_natCast, blt_d, ble_self, beq_self, decide_true, cond_true, Bool.and_self, Bool.and_true, Bool.true_and, gd_true, Nat.zero_add, List.getD_cons_zero, List.getD_cons_succ, isI_int, toI_int, isB_bool, toB_bool, eL_T, arr_ln, arr_fn, arr_wd, arr_is, arr_get, decide_eq_false (show ¬ k + (cntL c1_HdS l.kids : Int) < 0 by omega), cond_false]
  rw [entK_of (dm_hdSfS y1) (iv_hdSfS y1)]
  by_cases e1 : l.things = mk_SfS l.things (k + cntL c1_HdS l.kids)
  case neg =>
    simp only [n_hdSfS e1, if_neg e1, decide_eq_true (show (-1 : Int) < 0 by omega), cond_true]
    rfl
  rw [y_hdSfS e1, if_pos e1]
  simp only [lt_d, ge0_d, Int.toNat_natCast, blt_d, ble_self, beq_self, decide_true, cond_true, Bool.and_self, Bool.and_true, Bool.true_and, gd_true, Nat.zero_add, List.getD_cons_zero, List.getD_cons_succ, isI_int, toI_int, isB_bool, toB_bool, eL_T, arr_ln, arr_fn, arr_wd, arr_is, arr_get, decide_eq_false (show ¬ k + cntL c1_HdS l.kids + (cntL c1_SfS l.things : Int) < 0 by omega), cond_false]
  rw [entK_of (dm_hdLI y2) (iv_hdLI y2)]
  by_cases e2 : l.tags = mk_LI l.tags (k + cntL c1_HdS l.kids + cntL c1_SfS l.things)
  case neg =>
    simp only [n_hdLI e2, if_neg e2, decide_eq_true (show (-1 : Int) < 0 by omega), cond_true]
    rfl
  rw [y_hdLI e2, if_pos e2]
  simp only [lt_d, ge0_d, Int.toNat_natCast, blt_d, ble_self, beq_self, decide_true, cond_true, Bool.and_self, Bool.and_true, Bool.true_and, gd_true, Nat.zero_add, List.getD_cons_zero, List.getD_cons_succ, isI_int, toI_int, isB_bool, toB_bool, eL_T, arr_ln, arr_fn, arr_wd, arr_is, arr_get, decide_eq_false (show ¬ k + cntL c1_HdS l.kids + cntL c1_SfS l.things + (cntL c1_LI l.tags : Int) < 0 by omega), cond_false]
  try rfl
theorem s_hdRm : EntOk prog i_hdRm e_hdRm := ent_ok ea_hdRm_inj fun x hx =>
  body_sound (φ := (tabS [(i_hdHdS, e_hdHdS), (i_hdSfS, e_hdSfS), (i_hdLI, e_hdLI)])) (tabS_cons s_hdHdS (tabS_cons s_hdSfS (tabS_cons s_hdLI tabS_nil))) mixed (kp := kp_hdRm) (n := 0) func37 (c := bodyOf F_hdRm) (by kernel_rfl) (body_hdRm x.1 x.2 (0) hx) (name_ok (by kernel_rfl))
def ok_hdMl (x : Ml × Int) : Prop := okh_RmS (x.1.rooms, x.2) ∧ okh_LI (x.1.log, x.2 + cntL c1_RmS x.1.rooms)
def ea_hdMl (x : Ml × Int) : List Arg := [aR x.1.cs, aI x.2]
def f_hdMl (x : Ml × Int) : Int := (if x.1.rooms = mk_RmS x.1.rooms (x.2) then (if x.1.log = mk_LI x.1.log (x.2 + cntL c1_RmS x.1.rooms) then x.2 + cntL c1_RmS x.1.rooms + cntL c1_LI x.1.log else -1) else -1)
noncomputable def e_hdMl : Ent := ent [] ok_hdMl ea_hdMl (erI 2) f_hdMl
theorem ea_hdMl_inj (x y : Ml × Int) (h : ea_hdMl x = ea_hdMl y) : x = y := by
  obtain ⟨l1, k1⟩ := x
  obtain ⟨l2, k2⟩ := y
  simp only [ea_hdMl, List.cons.injEq, and_true, true_and] at h
  obtain ⟨e0, e1⟩ := h
  obtain rfl := Ml.cs_ext (aR_inj e0)
  obtain rfl := aI_inj e1
  rfl
theorem dm_hdMl {l : Ml} {k : Int} (h : ok_hdMl (l, k)) : dom ok_hdMl ea_hdMl [(0, true, [C.tr false (T.int IntKind.i64 l.c.chunks), C.tr false (T.int IntKind.i64 l.c.size), C.tr false (T.int IntKind.i64 l.c.slots), C.tr false (T.int IntKind.i64 l.c.tax), C.tr false (T.int IntKind.i64 l.c.slice), C.tr false (T.int IntKind.i64 l.c.gens), C.tr false (T.arr 11 l.rooms.length (atL Rm.cs l.rooms)), C.tr false (T.arr 1 l.log.length (atL rowI l.log))]), (0, false, [C.tr false (T.int IntKind.i64 k)])] = true := dom_ea (ea := ea_hdMl) (x := (l, k)) h
theorem iv_hdMl {l : Ml} {k : Int} (h : ok_hdMl (l, k)) : inv ok_hdMl ea_hdMl [(0, true, [C.tr false (T.int IntKind.i64 l.c.chunks), C.tr false (T.int IntKind.i64 l.c.size), C.tr false (T.int IntKind.i64 l.c.slots), C.tr false (T.int IntKind.i64 l.c.tax), C.tr false (T.int IntKind.i64 l.c.slice), C.tr false (T.int IntKind.i64 l.c.gens), C.tr false (T.arr 11 l.rooms.length (atL Rm.cs l.rooms)), C.tr false (T.arr 1 l.log.length (atL rowI l.log))]), (0, false, [C.tr false (T.int IntKind.i64 k)])] = (l, k) := inv_ea ea_hdMl_inj (x := (l, k)) h
theorem d_hdMl (l : Ml) (k : Int) : f_hdMl (l, k) = (if l.rooms = mk_RmS l.rooms (k) then (if l.log = mk_LI l.log (k + cntL c1_RmS l.rooms) then k + cntL c1_RmS l.rooms + cntL c1_LI l.log else -1) else -1) := rfl
def i_hdMl : Nat := 52
noncomputable abbrev F_hdMl : Func := f52
def kp_hdMl : List (Nat × List Nat) := [(0, [4, 8, 9]), (1, [4, 8, 9]), (2, [4, 8, 9, 40]), (3, [16]), (4, [4]), (5, [4, 64]), (6, [16]), (7, [16])]
def ts_hdMl : List Nat := [0, 0]
theorem pre_hdMl (l : Ml) (k : Int) (n : Nat) : body prog (tabS [(i_hdRmS, e_hdRmS), (i_hdLI, e_hdLI)]) kp_hdMl n F_hdMl [aR l.cs, aI k] = (
 entK okh_RmS eah_RmS (f_hdRmS) [(0, false, [C.tr false (eL 11 Rm.cs l.2)]), (0, false, [C.tr false (T.int IntKind.i64 k)])] fun (r1 : Int) =>
 bif decide (r1 < 0) then
  some ([(false, [.tr true (T.int IntKind.i64 (-1))])], [(false, []), (false, [])])
 else
 entK okh_LI eah_LI (f_hdLI) [(0, false, [C.tr false (eL 1 rowI l.3)]), (0, false, [C.tr false (T.int IntKind.i64 r1)])] fun (r2 : Int) =>
 bif decide (r2 < 0) then
  some ([(false, [.tr true (T.int IntKind.i64 (-1))])], [(false, []), (false, [])])
 else
 some ([(false, [.tr true (T.int IntKind.i64 r2)])], [(false, []), (false, [])])) := by kernel_rfl
theorem body_hdMl (l : Ml) (k : Int) (n : Nat) (h : ok_hdMl (l, k)) : body prog (tabS [(i_hdRmS, e_hdRmS), (i_hdLI, e_hdLI)]) kp_hdMl n F_hdMl (ea_hdMl (l, k)) = some (erI 2 (f_hdMl (l, k))) := by
  have hbm := bm
  have y0 : okh_RmS (l.rooms, k) := h.1
  have z0 := y0.2.1
  have w0 := y0.2.2
  dsimp only at z0 w0
  have y1 : okh_LI (l.log, k + cntL c1_RmS l.rooms) := h.2
  have z1 := y1.2.1
  have w1 := y1.2.2
  dsimp only at z1 w1
  unfold ea_hdMl f_hdMl
  try dsimp only
  rw [pre_hdMl]
  simp only [lt_d, ge0_d, Int.toNat_natCast, blt_d, ble_self, beq_self, decide_true, cond_true, Bool.and_self, Bool.and_true, Bool.true_and, gd_true, Nat.zero_add, List.getD_cons_zero, List.getD_cons_succ, isI_int, toI_int, isB_bool, toB_bool, eL_T, arr_ln, arr_fn, arr_wd, arr_is, arr_get, eL_T, Ml.cs]
  rw [entK_of (dm_hdRmS y0) (iv_hdRmS y0)]
  by_cases e0 : l.rooms = mk_RmS l.rooms (k)
  case neg =>
    simp only [n_hdRmS e0, if_neg e0, decide_eq_true (show (-1 : Int) < 0 by omega), cond_true]
    rfl
  rw [y_hdRmS e0, if_pos e0]
  simp only [lt_d, ge0_d, Int.toNat_natCast, blt_d, ble_self, beq_self, decide_true, cond_true, Bool.and_self, Bool.and_true, Bool.true_and, gd_true, Nat.zero_add, List.getD_cons_zero, List.getD_cons_succ, isI_int, toI_int, isB_bool, toB_bool, eL_T, arr_ln, arr_fn, arr_wd, arr_is, arr_get, decide_eq_false (show ¬ k + (cntL c1_RmS l.rooms : Int) < 0 by omega), cond_false]
  rw [entK_of (dm_hdLI y1) (iv_hdLI y1)]
  by_cases e1 : l.log = mk_LI l.log (k + cntL c1_RmS l.rooms)
  case neg =>
    simp only [n_hdLI e1, if_neg e1, decide_eq_true (show (-1 : Int) < 0 by omega), cond_true]
    rfl
  rw [y_hdLI e1, if_pos e1]
  simp only [lt_d, ge0_d, Int.toNat_natCast, blt_d, ble_self, beq_self, decide_true, cond_true, Bool.and_self, Bool.and_true, Bool.true_and, gd_true, Nat.zero_add, List.getD_cons_zero, List.getD_cons_succ, isI_int, toI_int, isB_bool, toB_bool, eL_T, arr_ln, arr_fn, arr_wd, arr_is, arr_get, decide_eq_false (show ¬ k + cntL c1_RmS l.rooms + (cntL c1_LI l.log : Int) < 0 by omega), cond_false]
  try rfl
theorem s_hdMl : EntOk prog i_hdMl e_hdMl := ent_ok ea_hdMl_inj fun x hx =>
  body_sound (φ := (tabS [(i_hdRmS, e_hdRmS), (i_hdLI, e_hdLI)])) (tabS_cons s_hdRmS (tabS_cons s_hdLI tabS_nil)) mixed (kp := kp_hdMl) (n := 0) func52 (c := bodyOf F_hdMl) (by kernel_rfl) (body_hdMl x.1 x.2 (0) hx) (name_ok (by kernel_rfl))
end Go.Mach.F