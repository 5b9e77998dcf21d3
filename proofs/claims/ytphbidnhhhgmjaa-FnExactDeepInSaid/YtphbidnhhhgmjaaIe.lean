/- FnExactDeepIn. Conditions: none. -/
import Derived.Test.YtphbidnhhhgmjaaId
set_option linter.all false
namespace Go.Mach.F
open Go Go.Mach Go.Proofs.Try
--=set_option maxRecDepth 100000
def i_xDeepIn : Nat := 8
noncomputable abbrev F_xDeepIn : Func := f8
def kp_xDeepIn : List (Nat × List Nat) := [(0, [8, 9, 12, 13]), (1, [8, 9, 12, 13, 20]), (2, [8, 9, 12, 13, 20]), (3, [8, 9, 12, 13, 52]), (4, [16]), (5, [8, 9, 12, 13, 24]), (6, [8, 9, 12, 13, 24, 28, 29, 80]), (7, [8, 9, 24, 28, 29, 32, 80]), (8, [8, 9, 28, 29, 80, 108]), (9, [16]), (10, [128]), (11, [16]), (12, [16])]
def ts_xDeepIn : List Nat := [0, 0]
theorem pre_xDeepIn (m : Ml) (h : Hd) (n : Nat) : body prog (tabS [(i_szMl, e_szMl), (i_toMl, e_toMl), (i_toHd, e_toHd), (i_sDeepIn, e_sDeepIn), (i_iDeepIn, e_iDeepIn), (i_EqMl, e_EqMl)]) kp_xDeepIn n F_xDeepIn [aR m.cs, aR h.cs] = (
 gd (dom okzz_RmS eaz_RmS [(0, false, [C.tr false (eL 11 Rm.cs m.2)]), (0, false, [C.tr false (T.int IntKind.i64 1048576)])]) <|
 bif decide
  (f_szRmS
      (inv okzz_RmS eaz_RmS
        [(0, false, [C.tr false (eL 11 Rm.cs m.2)]), (0, false, [C.tr false (T.int IntKind.i64 1048576)])]) <
    0) then
  some ([(false, [.tr true (T.bool true)])], [(false, []), (false, [])])
 else
 bif decide
  (IntKind.i64.wrap
      (f_szRmS
          (inv okzz_RmS eaz_RmS
            [(0, false, [C.tr false (eL 11 Rm.cs m.2)]), (0, false, [C.tr false (T.int IntKind.i64 1048576)])]) -
        (↑m.3.length : Int)) <
    0) then
  some ([(false, [.tr true (T.bool true)])], [(false, []), (false, [])])
 else
 bif decide
  (IntKind.i64.wrap
      (f_szRmS
          (inv okzz_RmS eaz_RmS
            [(0, false, [C.tr false (eL 11 Rm.cs m.2)]), (0, false, [C.tr false (T.int IntKind.i64 1048576)])]) -
        (↑m.3.length : Int)) <
    0) then
  some ([(false, [.tr true (T.bool true)])], [(false, []), (false, [])])
 else
 bif decide
  (IntKind.i64.wrap
      (f_szRmS
          (inv okzz_RmS eaz_RmS
            [(0, false, [C.tr false (eL 11 Rm.cs m.2)]), (0, false, [C.tr false (T.int IntKind.i64 1048576)])]) -
        (↑m.3.length : Int)) <
    0) then
  some ([(false, [.tr true (T.bool true)])], [(false, []), (false, [])])
 else
 gd (dom ok_RmS ea_RmS [(0, false, [C.tr false (eL 11 Rm.cs m.2)])]) <|
 gd ((inv ok_RmS ea_RmS [(0, false, [C.tr false (eL 11 Rm.cs m.2)])]).length.ble
    (inv ok_RmS ea_RmS [(0, false, [C.tr false (eL 11 Rm.cs m.2)])]).length &&
  true) <|
 gd (dom ok_LI ea_LI [(0, false, [C.tr false (eL 1 rowI m.3)])]) <|
 gd ((inv ok_LI ea_LI [(0, false, [C.tr false (eL 1 rowI m.3)])]).length.ble
    (inv ok_LI ea_LI [(0, false, [C.tr false (eL 1 rowI m.3)])]).length &&
  true) <|
 gd ((inv ok_RmS ea_RmS [(0, false, [C.tr false (eL 11 Rm.cs m.2)])]).length.ble
    (inv ok_RmS ea_RmS [(0, false, [C.tr false (eL 11 Rm.cs m.2)])]).length &&
  true) <|
 gd ((inv ok_LI ea_LI [(0, false, [C.tr false (eL 1 rowI m.3)])]).length.ble
    (inv ok_LI ea_LI [(0, false, [C.tr false (eL 1 rowI m.3)])]).length &&
  true) <|
 gd ((inv ok_RmS ea_RmS [(0, false, [C.tr false (eL 11 Rm.cs m.2)])]).length.ble
    (inv ok_RmS ea_RmS [(0, false, [C.tr false (eL 11 Rm.cs m.2)])]).length &&
  true) <|
 gd ((inv ok_LI ea_LI [(0, false, [C.tr false (eL 1 rowI m.3)])]).length.ble
    (inv ok_LI ea_LI [(0, false, [C.tr false (eL 1 rowI m.3)])]).length &&
  true) <|
 gd ((0 + (inv ok_RmS ea_RmS [(0, false, [C.tr false (eL 11 Rm.cs m.2)])]).length).ble
  (inv ok_RmS ea_RmS [(0, false, [C.tr false (eL 11 Rm.cs m.2)])]).length) <|
 gd ((0 + (inv ok_LI ea_LI [(0, false, [C.tr false (eL 1 rowI m.3)])]).length).ble
  (inv ok_LI ea_LI [(0, false, [C.tr false (eL 1 rowI m.3)])]).length) <|
 gd (dom ok_sDeepIn ea_sDeepIn
  [(0, true,
      [C.tr false (T.int IntKind.i64 m.c.1), C.tr false (T.int IntKind.i64 m.c.2),
        C.tr false (T.int IntKind.i64 m.c.3), C.tr false (T.int IntKind.i64 m.c.4),
        C.tr false (T.int IntKind.i64 m.c.5), C.tr false (T.int IntKind.i64 m.c.6),
        C.tr false
          (T.arr 11 (inv ok_RmS ea_RmS [(0, false, [C.tr false (eL 11 Rm.cs m.2)])]).length
            (cutT 0 (inv ok_RmS ea_RmS [(0, false, [C.tr false (eL 11 Rm.cs m.2)])]).length
              (eL 11 Rm.cs (inv ok_RmS ea_RmS [(0, false, [C.tr false (eL 11 Rm.cs m.2)])])).fn)),
        C.tr false
          (T.arr 1 (inv ok_LI ea_LI [(0, false, [C.tr false (eL 1 rowI m.3)])]).length
            (cutT 0 (inv ok_LI ea_LI [(0, false, [C.tr false (eL 1 rowI m.3)])]).length
              (atL rowI (inv ok_LI ea_LI [(0, false, [C.tr false (eL 1 rowI m.3)])]))))]),
    (0, true, [C.tr false (T.int IntKind.i64 h.1), C.tr false (T.int IntKind.i64 h.2)])]) <|
 gd (dom ok_RmS ea_RmS [(0, false, [C.tr false (eL 11 Rm.cs m.2)])]) <|
 gd ((inv ok_RmS ea_RmS [(0, false, [C.tr false (eL 11 Rm.cs m.2)])]).length.ble
    (inv ok_RmS ea_RmS [(0, false, [C.tr false (eL 11 Rm.cs m.2)])]).length &&
  true) <|
 gd (dom ok_LI ea_LI [(0, false, [C.tr false (eL 1 rowI m.3)])]) <|
 gd ((inv ok_LI ea_LI [(0, false, [C.tr false (eL 1 rowI m.3)])]).length.ble
    (inv ok_LI ea_LI [(0, false, [C.tr false (eL 1 rowI m.3)])]).length &&
  true) <|
 gd ((inv ok_RmS ea_RmS [(0, false, [C.tr false (eL 11 Rm.cs m.2)])]).length.ble
    (inv ok_RmS ea_RmS [(0, false, [C.tr false (eL 11 Rm.cs m.2)])]).length &&
  true) <|
 gd ((inv ok_LI ea_LI [(0, false, [C.tr false (eL 1 rowI m.3)])]).length.ble
    (inv ok_LI ea_LI [(0, false, [C.tr false (eL 1 rowI m.3)])]).length &&
  true) <|
 gd ((inv ok_RmS ea_RmS [(0, false, [C.tr false (eL 11 Rm.cs m.2)])]).length.ble
    (inv ok_RmS ea_RmS [(0, false, [C.tr false (eL 11 Rm.cs m.2)])]).length &&
  true) <|
 gd ((inv ok_LI ea_LI [(0, false, [C.tr false (eL 1 rowI m.3)])]).length.ble
    (inv ok_LI ea_LI [(0, false, [C.tr false (eL 1 rowI m.3)])]).length &&
  true) <|
 gd ((inv ok_RmS ea_RmS [(0, false, [C.tr false (eL 11 Rm.cs m.2)])]).length.ble
    (inv ok_RmS ea_RmS [(0, false, [C.tr false (eL 11 Rm.cs m.2)])]).length &&
  true) <|
 gd ((inv ok_LI ea_LI [(0, false, [C.tr false (eL 1 rowI m.3)])]).length.ble
    (inv ok_LI ea_LI [(0, false, [C.tr false (eL 1 rowI m.3)])]).length &&
  true) <|
 gd ((0 + (inv ok_RmS ea_RmS [(0, false, [C.tr false (eL 11 Rm.cs m.2)])]).length).ble
  (inv ok_RmS ea_RmS [(0, false, [C.tr false (eL 11 Rm.cs m.2)])]).length) <|
 gd ((0 + (inv ok_LI ea_LI [(0, false, [C.tr false (eL 1 rowI m.3)])]).length).ble
  (inv ok_LI ea_LI [(0, false, [C.tr false (eL 1 rowI m.3)])]).length) <|
 gd (dom ok_iDeepIn ea_iDeepIn
  [(0, true,
      [C.tr false (T.int IntKind.i64 m.c.1), C.tr false (T.int IntKind.i64 m.c.2),
        C.tr false (T.int IntKind.i64 m.c.3), C.tr false (T.int IntKind.i64 m.c.4),
        C.tr false (T.int IntKind.i64 m.c.5), C.tr false (T.int IntKind.i64 m.c.6),
        C.tr false
          (T.arr 11 (inv ok_RmS ea_RmS [(0, false, [C.tr false (eL 11 Rm.cs m.2)])]).length
            (cutT 0 (inv ok_RmS ea_RmS [(0, false, [C.tr false (eL 11 Rm.cs m.2)])]).length
              (eL 11 Rm.cs (inv ok_RmS ea_RmS [(0, false, [C.tr false (eL 11 Rm.cs m.2)])])).fn)),
        C.tr false
          (T.arr 1 (inv ok_LI ea_LI [(0, false, [C.tr false (eL 1 rowI m.3)])]).length
            (cutT 0 (inv ok_LI ea_LI [(0, false, [C.tr false (eL 1 rowI m.3)])]).length
              (atL rowI (inv ok_LI ea_LI [(0, false, [C.tr false (eL 1 rowI m.3)])]))))]),
    (0, true, [C.tr false (T.int IntKind.i64 h.1), C.tr false (T.int IntKind.i64 h.2)])]) <|
 bif f_iDeepIn
    (inv ok_iDeepIn ea_iDeepIn
      [(0, true,
          [C.tr false (T.int IntKind.i64 m.c.1), C.tr false (T.int IntKind.i64 m.c.2),
            C.tr false (T.int IntKind.i64 m.c.3), C.tr false (T.int IntKind.i64 m.c.4),
            C.tr false (T.int IntKind.i64 m.c.5), C.tr false (T.int IntKind.i64 m.c.6),
            C.tr false
              (T.arr 11 (inv ok_RmS ea_RmS [(0, false, [C.tr false (eL 11 Rm.cs m.2)])]).length
                (cutT 0 (inv ok_RmS ea_RmS [(0, false, [C.tr false (eL 11 Rm.cs m.2)])]).length
                  (eL 11 Rm.cs (inv ok_RmS ea_RmS [(0, false, [C.tr false (eL 11 Rm.cs m.2)])])).fn)),
            C.tr false
              (T.arr 1 (inv ok_LI ea_LI [(0, false, [C.tr false (eL 1 rowI m.3)])]).length
                (cutT 0 (inv ok_LI ea_LI [(0, false, [C.tr false (eL 1 rowI m.3)])]).length
                  (atL rowI (inv ok_LI ea_LI [(0, false, [C.tr false (eL 1 rowI m.3)])]))))]),
        (0, true, [C.tr false (T.int IntKind.i64 h.1), C.tr false (T.int IntKind.i64 h.2)])]) !=
  f_sDeepIn
    (inv ok_sDeepIn ea_sDeepIn
      [(0, true,
          [C.tr false (T.int IntKind.i64 m.c.1), C.tr false (T.int IntKind.i64 m.c.2),
            C.tr false (T.int IntKind.i64 m.c.3), C.tr false (T.int IntKind.i64 m.c.4),
            C.tr false (T.int IntKind.i64 m.c.5), C.tr false (T.int IntKind.i64 m.c.6),
            C.tr false
              (T.arr 11 (inv ok_RmS ea_RmS [(0, false, [C.tr false (eL 11 Rm.cs m.2)])]).length
                (cutT 0 (inv ok_RmS ea_RmS [(0, false, [C.tr false (eL 11 Rm.cs m.2)])]).length
                  (eL 11 Rm.cs (inv ok_RmS ea_RmS [(0, false, [C.tr false (eL 11 Rm.cs m.2)])])).fn)),
            C.tr false
              (T.arr 1 (inv ok_LI ea_LI [(0, false, [C.tr false (eL 1 rowI m.3)])]).length
                (cutT 0 (inv ok_LI ea_LI [(0, false, [C.tr false (eL 1 rowI m.3)])]).length
                  (atL rowI (inv ok_LI ea_LI [(0, false, [C.tr false (eL 1 rowI m.3)])]))))]),
        (0, true, [C.tr false (T.int IntKind.i64 h.1), C.tr false (T.int IntKind.i64 h.2)])]) then
  some ([(false, [.tr true (T.bool false)])], [(false, []), (false, [])])
 else
 gd (dom ok_RmS ea_RmS [(0, false, [C.tr false (eL 11 Rm.cs m.2)])]) <|
 gd ((inv ok_RmS ea_RmS [(0, false, [C.tr false (eL 11 Rm.cs m.2)])]).length.ble
    (inv ok_RmS ea_RmS [(0, false, [C.tr false (eL 11 Rm.cs m.2)])]).length &&
  true) <|
 gd (dom ok_LI ea_LI [(0, false, [C.tr false (eL 1 rowI m.3)])]) <|
 gd ((inv ok_LI ea_LI [(0, false, [C.tr false (eL 1 rowI m.3)])]).length.ble
    (inv ok_LI ea_LI [(0, false, [C.tr false (eL 1 rowI m.3)])]).length &&
  true) <|
 gd ((inv ok_RmS ea_RmS [(0, false, [C.tr false (eL 11 Rm.cs m.2)])]).length.ble
    (inv ok_RmS ea_RmS [(0, false, [C.tr false (eL 11 Rm.cs m.2)])]).length &&
  true) <|
 gd ((inv ok_LI ea_LI [(0, false, [C.tr false (eL 1 rowI m.3)])]).length.ble
    (inv ok_LI ea_LI [(0, false, [C.tr false (eL 1 rowI m.3)])]).length &&
  true) <|
 gd ((inv ok_RmS ea_RmS [(0, false, [C.tr false (eL 11 Rm.cs m.2)])]).length.ble
    (inv ok_RmS ea_RmS [(0, false, [C.tr false (eL 11 Rm.cs m.2)])]).length &&
  true) <|
 gd ((inv ok_LI ea_LI [(0, false, [C.tr false (eL 1 rowI m.3)])]).length.ble
    (inv ok_LI ea_LI [(0, false, [C.tr false (eL 1 rowI m.3)])]).length &&
  true) <|
 gd ((0 + (inv ok_RmS ea_RmS [(0, false, [C.tr false (eL 11 Rm.cs m.2)])]).length).ble
  (inv ok_RmS ea_RmS [(0, false, [C.tr false (eL 11 Rm.cs m.2)])]).length) <|
 gd ((0 + (inv ok_LI ea_LI [(0, false, [C.tr false (eL 1 rowI m.3)])]).length).ble
  (inv ok_LI ea_LI [(0, false, [C.tr false (eL 1 rowI m.3)])]).length) <|
 gd ((0 + (inv ok_RmS ea_RmS [(0, false, [C.tr false (eL 11 Rm.cs m.2)])]).length).ble
  (inv ok_RmS ea_RmS [(0, false, [C.tr false (eL 11 Rm.cs m.2)])]).length) <|
 gd ((0 + (inv ok_LI ea_LI [(0, false, [C.tr false (eL 1 rowI m.3)])]).length).ble
  (inv ok_LI ea_LI [(0, false, [C.tr false (eL 1 rowI m.3)])]).length) <|
 gd (dom ok_EqMl ea_EqMl
  [(0, true,
      [C.tr false (T.int IntKind.i64 m.c.1), C.tr false (T.int IntKind.i64 m.c.2),
        C.tr false (T.int IntKind.i64 m.c.3), C.tr false (T.int IntKind.i64 m.c.4),
        C.tr false (T.int IntKind.i64 m.c.5), C.tr false (T.int IntKind.i64 m.c.6),
        C.tr false
          (T.arr 11 (inv ok_RmS ea_RmS [(0, false, [C.tr false (eL 11 Rm.cs m.2)])]).length
            (cutT 0 (inv ok_RmS ea_RmS [(0, false, [C.tr false (eL 11 Rm.cs m.2)])]).length
              (eL 11 Rm.cs (inv ok_RmS ea_RmS [(0, false, [C.tr false (eL 11 Rm.cs m.2)])])).fn)),
        C.tr false
          (T.arr 1 (inv ok_LI ea_LI [(0, false, [C.tr false (eL 1 rowI m.3)])]).length
            (cutT 0 (inv ok_LI ea_LI [(0, false, [C.tr false (eL 1 rowI m.3)])]).length
              (atL rowI (inv ok_LI ea_LI [(0, false, [C.tr false (eL 1 rowI m.3)])]))))]),
    (0, true,
      [C.tr false (T.int IntKind.i64 m.c.1), C.tr false (T.int IntKind.i64 m.c.2),
        C.tr false (T.int IntKind.i64 m.c.3), C.tr false (T.int IntKind.i64 m.c.4),
        C.tr false (T.int IntKind.i64 m.c.5), C.tr false (T.int IntKind.i64 m.c.6),
        C.tr false
          (T.arr 11 (inv ok_RmS ea_RmS [(0, false, [C.tr false (eL 11 Rm.cs m.2)])]).length
            (cutT 0 (inv ok_RmS ea_RmS [(0, false, [C.tr false (eL 11 Rm.cs m.2)])]).length
              (eL 11 Rm.cs (inv ok_RmS ea_RmS [(0, false, [C.tr false (eL 11 Rm.cs m.2)])])).fn)),
        C.tr false
          (T.arr 1 (inv ok_LI ea_LI [(0, false, [C.tr false (eL 1 rowI m.3)])]).length
            (cutT 0 (inv ok_LI ea_LI [(0, false, [C.tr false (eL 1 rowI m.3)])]).length
              (atL rowI (inv ok_LI ea_LI [(0, false, [C.tr false (eL 1 rowI m.3)])]))))])]) <|
 bif !f_EqMl
    (inv ok_EqMl ea_EqMl
      [(0, true,
          [C.tr false (T.int IntKind.i64 m.c.1), C.tr false (T.int IntKind.i64 m.c.2),
            C.tr false (T.int IntKind.i64 m.c.3), C.tr false (T.int IntKind.i64 m.c.4),
            C.tr false (T.int IntKind.i64 m.c.5), C.tr false (T.int IntKind.i64 m.c.6),
            C.tr false
              (T.arr 11 (inv ok_RmS ea_RmS [(0, false, [C.tr false (eL 11 Rm.cs m.2)])]).length
                (cutT 0 (inv ok_RmS ea_RmS [(0, false, [C.tr false (eL 11 Rm.cs m.2)])]).length
                  (eL 11 Rm.cs (inv ok_RmS ea_RmS [(0, false, [C.tr false (eL 11 Rm.cs m.2)])])).fn)),
            C.tr false
              (T.arr 1 (inv ok_LI ea_LI [(0, false, [C.tr false (eL 1 rowI m.3)])]).length
                (cutT 0 (inv ok_LI ea_LI [(0, false, [C.tr false (eL 1 rowI m.3)])]).length
                  (atL rowI (inv ok_LI ea_LI [(0, false, [C.tr false (eL 1 rowI m.3)])]))))]),
        (0, true,
          [C.tr false (T.int IntKind.i64 m.c.1), C.tr false (T.int IntKind.i64 m.c.2),
            C.tr false (T.int IntKind.i64 m.c.3), C.tr false (T.int IntKind.i64 m.c.4),
            C.tr false (T.int IntKind.i64 m.c.5), C.tr false (T.int IntKind.i64 m.c.6),
            C.tr false
              (T.arr 11 (inv ok_RmS ea_RmS [(0, false, [C.tr false (eL 11 Rm.cs m.2)])]).length
                (cutT 0 (inv ok_RmS ea_RmS [(0, false, [C.tr false (eL 11 Rm.cs m.2)])]).length
                  (eL 11 Rm.cs (inv ok_RmS ea_RmS [(0, false, [C.tr false (eL 11 Rm.cs m.2)])])).fn)),
            C.tr false
              (T.arr 1 (inv ok_LI ea_LI [(0, false, [C.tr false (eL 1 rowI m.3)])]).length
                (cutT 0 (inv ok_LI ea_LI [(0, false, [C.tr false (eL 1 rowI m.3)])]).length
                  (atL rowI (inv ok_LI ea_LI [(0, false, [C.tr false (eL 1 rowI m.3)])]))))])]) then
  some ([(false, [.tr true (T.bool false)])], [(false, []), (false, [])])
 else
 some ([(false, [.tr true (T.bool true)])], [(false, []), (false, [])])) := by kernel_rfl
theorem body_xDeepIn (m : Ml) (h : Hd) (hm : z_Ml m) (hh : z_Hd h) (n : Nat) : body prog (tabS [(i_szMl, e_szMl), (i_toMl, e_toMl), (i_toHd, e_toHd), (i_sDeepIn, e_sDeepIn), (i_iDeepIn, e_iDeepIn), (i_EqMl, e_EqMl)]) kp_xDeepIn n F_xDeepIn [aR m.cs, aR h.cs] = some (erB 2 true) := by
  have hzm := zm
  have hlm := lm
  have hbm := bm
  have z0 : okz_RmS m.rooms := hm.1
  have z1 : okz_LI m.log := hm.2
  rw [pre_xDeepIn]
  have y0 : okzz_RmS (m.rooms, 1048576) := ⟨z0, by dsimp only; omega, by dsimp only; omega⟩
  simp only [lt_d, ge0_d, Int.toNat_natCast, blt_d, ble_self, beq_self, decide_true, cond_true, Bool.and_self, Bool.and_true, Bool.true_and, gd_true, Nat.zero_add, List.getD_cons_zero, List.getD_cons_succ, isI_int, toI_int, isB_bool, toB_bool, eL_T, arr_ln, arr_fn, arr_wd, arr_is, arr_get, Ml.cs, Hd.cs, dm_szRmS y0, iv_szRmS y0]
  by_cases e0 : (n_RmS m.rooms : Int) ≤ 1048576
  case neg =>
    simp only [n_szRmS e0]
    simp only [decide_eq_true (show (-1 : Int) < 0 by omega), cond_true]
    rfl
  simp only [y_szRmS e0]
  simp (disch := omega) only [decide_eq_false (show ¬ 1048576 - (n_RmS m.rooms : Int) < 0 by omega), cond_false, wrapI]
  have y1 := (show m.log.length ≤ ZM from z1)
  try simp (disch := omega) only [wrapI]
  by_cases e1 : 1048576 - (n_RmS m.rooms : Int) - (m.log.length : Int) < 0
  · simp only [decide_eq_true e1, cond_true]
    rfl
  simp (disch := omega) only [decide_eq_false e1, cond_false, wrapI]
  obtain ⟨g0, q0⟩ := okn_RmS (l := m.rooms) (by omega)
  obtain ⟨g1, q1⟩ := okn_LI (l := m.log) (show (m.log.length : Int) ≤ 1048576 by omega)
  have c0 : ok_sDeepIn (m, h) := g0.1
  have c1 : ok_iDeepIn (m, h) := g0.1
  have c2 : ok_EqMl (m, m) := ⟨q0, q1⟩
  simp only [lt_d, ge0_d, Int.toNat_natCast, blt_d, ble_self, beq_self, decide_true, cond_true, Bool.and_self, Bool.and_true, Bool.true_and, gd_true, Nat.zero_add, List.getD_cons_zero, List.getD_cons_succ, isI_int, toI_int, isB_bool, toB_bool, eL_T, arr_ln, arr_fn, arr_wd, arr_is, arr_get, Ml.cs, Hd.cs, dm_toRmS g0, iv_toRmS g0, dm_toLI g1, iv_toLI g1, cut_all, dm_sDeepIn c0, iv_sDeepIn c0, d_sDeepIn, dm_iDeepIn c1, iv_iDeepIn c1, d_iDeepIn, dm_EqMl c2, iv_EqMl c2, d_EqMl, bool_self, bool_nself, int_self, int_nself, Bool.not_true, cond_false]
  rfl
theorem sd_xDeepIn (m : Ml) (h : Hd) (hm : z_Ml m) (hh : z_Hd h) : Sound prog i_xDeepIn [aR m.cs, aR h.cs] (erB 2 true).1 (erB 2 true).2 :=
  body_sound (φ := (tabS [(i_szMl, e_szMl), (i_toMl, e_toMl), (i_toHd, e_toHd), (i_sDeepIn, e_sDeepIn), (i_iDeepIn, e_iDeepIn), (i_EqMl, e_EqMl)])) (tabS_cons s_szMl (tabS_cons s_toMl (tabS_cons s_toHd (tabS_cons s_sDeepIn (tabS_cons s_iDeepIn (tabS_cons s_EqMl tabS_nil)))))) mixed (kp := kp_xDeepIn) (n := 0) func8 (c := bodyOf F_xDeepIn) (by kernel_rfl) (body_xDeepIn m h hm hh 0) (name_ok (by kernel_rfl))
end Go.Mach.F