/- Models: copies and sizes as entries. Conditions: none. -/
import Derived.Test.YtkbhcdenfigpoaaHk
set_option linter.all false
namespace Go.Mach.F
open Go Go.Mach Go.Proofs.Try
--=set_option maxRecDepth 100000
def ok_ToMl (x : Ml) : Prop := ok_RmS x.rooms ∧ ok_LI x.log
def ea_ToMl (x : Ml) : List Arg := [aR x.cs]
def f_ToMl (x : Ml) : Ml := x
noncomputable def e_ToMl : Ent := ent [] ok_ToMl ea_ToMl (fun l => erR 1 l.cs) f_ToMl
theorem ea_ToMl_inj (x y : Ml) (h : ea_ToMl x = ea_ToMl y) : x = y := by
  simp only [ea_ToMl, List.cons.injEq, and_true, true_and] at h
  exact Ml.cs_ext (aR_inj h)
theorem dm_ToMl {l : Ml} (h : ok_ToMl l) : dom ok_ToMl ea_ToMl [(0, true, [C.tr false (T.int IntKind.i64 l.c.chunks), C.tr false (T.int IntKind.i64 l.c.size), C.tr false (T.int IntKind.i64 l.c.slots), C.tr false (T.int IntKind.i64 l.c.tax), C.tr false (T.int IntKind.i64 l.c.slice), C.tr false (T.int IntKind.i64 l.c.gens), C.tr false (T.arr 11 l.rooms.length (atL Rm.cs l.rooms)), C.tr false (T.arr 1 l.log.length (atL rowI l.log))])] = true := dom_ea (ea := ea_ToMl) (x := l) h
theorem iv_ToMl {l : Ml} (h : ok_ToMl l) : inv ok_ToMl ea_ToMl [(0, true, [C.tr false (T.int IntKind.i64 l.c.chunks), C.tr false (T.int IntKind.i64 l.c.size), C.tr false (T.int IntKind.i64 l.c.slots), C.tr false (T.int IntKind.i64 l.c.tax), C.tr false (T.int IntKind.i64 l.c.slice), C.tr false (T.int IntKind.i64 l.c.gens), C.tr false (T.arr 11 l.rooms.length (atL Rm.cs l.rooms)), C.tr false (T.arr 1 l.log.length (atL rowI l.log))])] = l := inv_ea ea_ToMl_inj (x := l) h
theorem d_ToMl (l : Ml) : f_ToMl l = l := rfl
def i_ToMl : Nat := 22
noncomputable abbrev F_ToMl : Func := f22
def kp_ToMl : List (Nat × List Nat) := [(0, [4, 5, 8, 9, 12, 13, 64]), (1, [4, 5, 8, 9, 12, 13, 64]), (2, [4, 5, 8, 9, 12, 13, 64]), (3, [4, 5, 8, 9, 12, 13, 64]), (4, [8, 9, 12, 13, 64]), (5, [8, 9, 12, 13, 64])]
def ts_ToMl : List Nat := [0]
theorem pre_ToMl (l : Ml) (n : Nat) : body prog (tabS [(i_toCf, e_toCf), (i_toRmS, e_toRmS), (i_toLI, e_toLI)]) kp_ToMl n F_ToMl [aR l.cs] = (
 gd (dom ok_RmS ea_RmS [(0, false, [C.tr false (eL 11 Rm.cs l.2)])]) <|
 gd ((inv ok_RmS ea_RmS [(0, false, [C.tr false (eL 11 Rm.cs l.2)])]).length.ble
    (inv ok_RmS ea_RmS [(0, false, [C.tr false (eL 11 Rm.cs l.2)])]).length &&
  true) <|
 gd (dom ok_LI ea_LI [(0, false, [C.tr false (eL 1 rowI l.3)])]) <|
 gd ((inv ok_LI ea_LI [(0, false, [C.tr false (eL 1 rowI l.3)])]).length.ble
    (inv ok_LI ea_LI [(0, false, [C.tr false (eL 1 rowI l.3)])]).length &&
  true) <|
 gd ((inv ok_RmS ea_RmS [(0, false, [C.tr false (eL 11 Rm.cs l.2)])]).length.ble
    (inv ok_RmS ea_RmS [(0, false, [C.tr false (eL 11 Rm.cs l.2)])]).length &&
  true) <|
 gd ((inv ok_LI ea_LI [(0, false, [C.tr false (eL 1 rowI l.3)])]).length.ble
    (inv ok_LI ea_LI [(0, false, [C.tr false (eL 1 rowI l.3)])]).length &&
  true) <|
 gd ((inv ok_RmS ea_RmS [(0, false, [C.tr false (eL 11 Rm.cs l.2)])]).length.ble
    (inv ok_RmS ea_RmS [(0, false, [C.tr false (eL 11 Rm.cs l.2)])]).length &&
  true) <|
 gd ((inv ok_LI ea_LI [(0, false, [C.tr false (eL 1 rowI l.3)])]).length.ble
    (inv ok_LI ea_LI [(0, false, [C.tr false (eL 1 rowI l.3)])]).length &&
  true) <|
 some ([(true, [.tr true (T.int IntKind.i64 l.c.1), .tr true (T.int IntKind.i64 l.c.2), .tr true (T.int IntKind.i64 l.c.3), .tr true (T.int IntKind.i64 l.c.4), .tr true (T.int IntKind.i64 l.c.5), .tr true (T.int IntKind.i64 l.c.6), .tr true (.arr (11) ((inv ok_RmS ea_RmS [(0, false, [C.tr false (eL 11 Rm.cs l.2)])]).length) ((eL 11 Rm.cs (inv ok_RmS ea_RmS [(0, false, [C.tr false (eL 11 Rm.cs l.2)])])).fn)), .tr true (.arr (1) ((inv ok_LI ea_LI [(0, false, [C.tr false (eL 1 rowI l.3)])]).length) (atL rowI (inv ok_LI ea_LI [(0, false, [C.tr false (eL 1 rowI l.3)])])))])], [(false, [])])) := by kernel_rfl
theorem body_ToMl (l : Ml) (n : Nat) (h : ok_ToMl l) : body prog (tabS [(i_toCf, e_toCf), (i_toRmS, e_toRmS), (i_toLI, e_toLI)]) kp_ToMl n F_ToMl (ea_ToMl l) = some (erR 1 l.cs) := by
  have h0 : ok_RmS l.rooms := h.1
  have h1 : ok_LI l.log := h.2
  unfold ea_ToMl
  rw [pre_ToMl]
  simp only [lt_d, ge0_d, Int.toNat_natCast, blt_d, ble_self, beq_self, decide_true, cond_true, Bool.and_self, Bool.and_true, Bool.true_and, gd_true, Nat.zero_add, List.getD_cons_zero, List.getD_cons_succ, isI_int, toI_int, isB_bool, toB_bool, eL_T, arr_ln, arr_fn, arr_wd, arr_is, arr_get, Ml.cs, dm_toRmS h0, iv_toRmS h0, dm_toLI h1, iv_toLI h1, cut_all]
  rfl
theorem s_ToMl : EntOk prog i_ToMl e_ToMl := ent_ok ea_ToMl_inj fun x hx =>
  body_sound (φ := (tabS [(i_toCf, e_toCf), (i_toRmS, e_toRmS), (i_toLI, e_toLI)])) (tabS_cons s_toCf (tabS_cons s_toRmS (tabS_cons s_toLI tabS_nil))) mixed (kp := kp_ToMl) (n := 0) func22 (c := bodyOf F_ToMl) (by kernel_rfl) (body_ToMl x 0 hx) (name_ok (by kernel_rfl))
def okq_Ml (l : Ml) : Prop := okq_RmS l.rooms ∧ okq_LI l.log
def n_Ml (l : Ml) : Nat := n_RmS l.rooms + n_LI l.log
def ok_SzMl (x : Ml × Int) : Prop := z_Ml x.1 ∧ 0 ≤ x.2 ∧ x.2 ≤ LM
def ea_SzMl (x : Ml × Int) : List Arg := [aR x.1.cs, aI x.2]
def f_SzMl (x : Ml × Int) : Int := if (n_Ml x.1 : Int) ≤ x.2 then x.2 - n_Ml x.1 else -1
noncomputable def e_SzMl : Ent := ent [] ok_SzMl ea_SzMl (erI 2) f_SzMl
theorem ea_SzMl_inj (x y : Ml × Int) (h : ea_SzMl x = ea_SzMl y) : x = y := by
  obtain ⟨l1, k1⟩ := x
  obtain ⟨l2, k2⟩ := y
  simp only [ea_SzMl, List.cons.injEq, and_true, true_and] at h
  obtain ⟨e0, e1⟩ := h
  obtain rfl := Ml.cs_ext (aR_inj e0)
  obtain rfl := aI_inj e1
  rfl
theorem dm_SzMl {l : Ml} {k : Int} (h : ok_SzMl (l, k)) : dom ok_SzMl ea_SzMl [(0, true, [C.tr false (T.int IntKind.i64 l.c.chunks), C.tr false (T.int IntKind.i64 l.c.size), C.tr false (T.int IntKind.i64 l.c.slots), C.tr false (T.int IntKind.i64 l.c.tax), C.tr false (T.int IntKind.i64 l.c.slice), C.tr false (T.int IntKind.i64 l.c.gens), C.tr false (T.arr 11 l.rooms.length (atL Rm.cs l.rooms)), C.tr false (T.arr 1 l.log.length (atL rowI l.log))]), (0, false, [C.tr false (T.int IntKind.i64 k)])] = true := dom_ea (ea := ea_SzMl) (x := (l, k)) h
theorem iv_SzMl {l : Ml} {k : Int} (h : ok_SzMl (l, k)) : inv ok_SzMl ea_SzMl [(0, true, [C.tr false (T.int IntKind.i64 l.c.chunks), C.tr false (T.int IntKind.i64 l.c.size), C.tr false (T.int IntKind.i64 l.c.slots), C.tr false (T.int IntKind.i64 l.c.tax), C.tr false (T.int IntKind.i64 l.c.slice), C.tr false (T.int IntKind.i64 l.c.gens), C.tr false (T.arr 11 l.rooms.length (atL Rm.cs l.rooms)), C.tr false (T.arr 1 l.log.length (atL rowI l.log))]), (0, false, [C.tr false (T.int IntKind.i64 k)])] = (l, k) := inv_ea ea_SzMl_inj (x := (l, k)) h
theorem d_SzMl (l : Ml) (k : Int) : f_SzMl (l, k) = if (n_Ml l : Int) ≤ k then k - n_Ml l else -1 := rfl
def i_SzMl : Nat := 20
noncomputable abbrev F_SzMl : Func := f20
def kp_SzMl : List (Nat × List Nat) := [(0, [4, 8, 9]), (1, [4, 8, 9]), (2, [4, 8, 9, 40]), (3, [16]), (4, [4]), (5, [4, 64]), (6, [16]), (7, [16])]
def ts_SzMl : List Nat := [0, 0]
theorem pre_SzMl (l : Ml) (k : Int) (n : Nat) : body prog (tabS [(i_szRmS, e_szRmS), (i_szLI, e_szLI)]) kp_SzMl n F_SzMl [aR l.cs, aI k] = (
 gd (dom okzz_RmS eaz_RmS [(0, false, [C.tr false (eL 11 Rm.cs l.2)]), (0, false, [C.tr false (T.int IntKind.i64 k)])]) <|
 bif decide
  (f_szRmS
      (inv okzz_RmS eaz_RmS
        [(0, false, [C.tr false (eL 11 Rm.cs l.2)]), (0, false, [C.tr false (T.int IntKind.i64 k)])]) <
    0) then
  some ([(false, [.tr true (T.int IntKind.i64 (-1))])], [(false, []), (false, [])])
 else
 bif decide
  (IntKind.i64.wrap
      (f_szRmS
          (inv okzz_RmS eaz_RmS
            [(0, false, [C.tr false (eL 11 Rm.cs l.2)]), (0, false, [C.tr false (T.int IntKind.i64 k)])]) -
        (↑l.3.length : Int)) <
    0) then
  some ([(false, [.tr true (T.int IntKind.i64 (-1))])], [(false, []), (false, [])])
 else
 bif decide
  (IntKind.i64.wrap
      (f_szRmS
          (inv okzz_RmS eaz_RmS
            [(0, false, [C.tr false (eL 11 Rm.cs l.2)]), (0, false, [C.tr false (T.int IntKind.i64 k)])]) -
        (↑l.3.length : Int)) <
    0) then
  some ([(false, [.tr true (T.int IntKind.i64 (-1))])], [(false, []), (false, [])])
 else
 some ([(false, [.tr true (T.int IntKind.i64
  (IntKind.i64.wrap
    (f_szRmS
        (inv okzz_RmS eaz_RmS
          [(0, false, [C.tr false (eL 11 Rm.cs l.2)]), (0, false, [C.tr false (T.int IntKind.i64 k)])]) -
      (↑l.3.length : Int))))])], [(false, []), (false, [])])) := by kernel_rfl
theorem body_SzMl (l : Ml) (k : Int) (n : Nat) (h : ok_SzMl (l, k)) : body prog (tabS [(i_szRmS, e_szRmS), (i_szLI, e_szLI)]) kp_SzMl n F_SzMl (ea_SzMl (l, k)) = some (erI 2 (f_SzMl (l, k))) := by
  have hzm := zm
  have hlm := lm
  obtain ⟨hz, hk0, hk1⟩ := h
  dsimp only at hz hk0 hk1
  have z0 : okz_RmS l.rooms := hz.1
  have z1 : okz_LI l.log := hz.2
  have hn : n_Ml l = n_RmS l.rooms + l.log.length := rfl
  unfold ea_SzMl f_SzMl
  dsimp only
  rw [pre_SzMl]
  have y0 : okzz_RmS (l.rooms, k) := ⟨z0, by dsimp only; omega, by dsimp only; omega⟩
  simp only [lt_d, ge0_d, Int.toNat_natCast, blt_d, ble_self, beq_self, decide_true, cond_true, Bool.and_self, Bool.and_true, Bool.true_and, gd_true, Nat.zero_add, List.getD_cons_zero, List.getD_cons_succ, isI_int, toI_int, isB_bool, toB_bool, eL_T, arr_ln, arr_fn, arr_wd, arr_is, arr_get, Ml.cs, dm_szRmS y0, iv_szRmS y0]
  by_cases e0 : (n_RmS l.rooms : Int) ≤ k
  case neg =>
    simp only [n_szRmS e0]
    rw [if_neg (by omega)]
    simp only [decide_eq_true (show (-1 : Int) < 0 by omega), cond_true]
    rfl
  simp only [y_szRmS e0]
  simp (disch := omega) only [decide_eq_false (show ¬ k - (n_RmS l.rooms : Int) < 0 by omega), cond_false, wrapI]
  have y1 : l.log.length ≤ ZM := z1
  try simp (disch := omega) only [wrapI]
  by_cases e1 : k - (n_RmS l.rooms : Int) - (l.log.length : Int) < 0
  · rw [if_neg (by omega)]
    simp only [decide_eq_true e1, cond_true]
    rfl
  simp (disch := omega) only [decide_eq_false e1, cond_false, wrapI]
  rw [if_pos (by omega), show k - (n_Ml l : Int) = k - (n_RmS l.rooms : Int) - (l.log.length : Int) by omega]
  rfl
theorem s_SzMl : EntOk prog i_SzMl e_SzMl := ent_ok ea_SzMl_inj fun x hx =>
  body_sound (φ := (tabS [(i_szRmS, e_szRmS), (i_szLI, e_szLI)])) (tabS_cons s_szRmS (tabS_cons s_szLI tabS_nil)) mixed (kp := kp_SzMl) (n := 0) func20 (c := bodyOf F_SzMl) (by kernel_rfl) (body_SzMl x.1 x.2 (0) hx) (name_ok (by kernel_rfl))
theorem y_SzMl {l : Ml} {k : Int} (h : (n_Ml l : Int) ≤ k) : f_SzMl (l, k) = k - n_Ml l := if_pos h
theorem n_SzMl {l : Ml} {k : Int} (h : ¬ (n_Ml l : Int) ≤ k) : f_SzMl (l, k) = -1 := if_neg h
theorem okn_Ml {l : Ml} (h : (n_Ml l : Int) ≤ 1048576) : ok_ToMl l ∧ okq_Ml l := ⟨⟨(okn_RmS (l := l.rooms) (by have : n_Ml l = n_RmS l.rooms + n_LI l.log := rfl; omega)).1, (okn_LI (l := l.log) (by have : n_Ml l = n_RmS l.rooms + n_LI l.log := rfl; omega)).1⟩, ⟨(okn_RmS (l := l.rooms) (by have : n_Ml l = n_RmS l.rooms + n_LI l.log := rfl; omega)).2, (okn_LI (l := l.log) (by have : n_Ml l = n_RmS l.rooms + n_LI l.log := rfl; omega)).2⟩⟩
end Go.Mach.F