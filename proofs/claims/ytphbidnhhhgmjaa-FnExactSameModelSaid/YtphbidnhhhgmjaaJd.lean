/- FnExactSameModel. Conditions: none. -/
import Derived.Test.YtphbidnhhhgmjaaJc
set_option linter.all false
namespace Go.Mach.F
open Go Go.Mach Go.Proofs.Try
--=set_option maxRecDepth 100000
def i_xSameModel : Nat := 9
noncomputable abbrev F_xSameModel : Func := f9
def kp_xSameModel : List (Nat × List Nat) := [(0, [8, 9, 12, 13]), (1, [8, 9, 12, 13, 20]), (2, [8, 9, 12, 13, 20]), (3, [8, 9, 12, 13, 20, 56]), (4, [16]), (5, [8, 9, 12, 13, 20]), (6, [8, 9, 12, 13, 76]), (7, [16]), (8, [8, 9, 12, 13, 24]), (9, [8, 9, 12, 13, 24, 28, 29, 104]), (10, [8, 9, 12, 13, 24, 28, 29, 32, 33, 104, 112]), (11, [8, 9, 12, 13, 24, 28, 29, 32, 33, 36, 104, 112]), (12, [8, 9, 12, 13, 28, 29, 32, 33, 104, 112, 136]), (13, [16]), (14, [12, 13, 32, 33, 112, 156]), (15, [16]), (16, [176]), (17, [16]), (18, [16])]
def ts_xSameModel : List Nat := [0, 0]
theorem pre_xSameModel (a : Ml) (b : Ml) (n : Nat) : body prog (tabS [(i_szMl, e_szMl), (i_toMl, e_toMl), (i_sSameModel, e_sSameModel), (i_iSameModel, e_iSameModel), (i_EqMl, e_EqMl)]) kp_xSameModel n F_xSameModel [aR a.cs, aR b.cs] = (
 gd (dom okzz_RmS eaz_RmS [(0, false, [C.tr false (eL 11 Rm.cs a.2)]), (0, false, [C.tr false (T.int IntKind.i64 1048576)])]) <|
 bif decide
  (f_szRmS
      (inv okzz_RmS eaz_RmS
        [(0, false, [C.tr false (eL 11 Rm.cs a.2)]), (0, false, [C.tr false (T.int IntKind.i64 1048576)])]) <
    0) then
  some ([(false, [.tr true (T.bool true)])], [(false, []), (false, [])])
 else
 bif decide
  (IntKind.i64.wrap
      (f_szRmS
          (inv okzz_RmS eaz_RmS
            [(0, false, [C.tr false (eL 11 Rm.cs a.2)]), (0, false, [C.tr false (T.int IntKind.i64 1048576)])]) -
        (↑a.3.length : Int)) <
    0) then
  some ([(false, [.tr true (T.bool true)])], [(false, []), (false, [])])
 else
 bif decide
  (IntKind.i64.wrap
      (f_szRmS
          (inv okzz_RmS eaz_RmS
            [(0, false, [C.tr false (eL 11 Rm.cs a.2)]), (0, false, [C.tr false (T.int IntKind.i64 1048576)])]) -
        (↑a.3.length : Int)) <
    0) then
  some ([(false, [.tr true (T.bool true)])], [(false, []), (false, [])])
 else
 bif decide
  (IntKind.i64.wrap
      (f_szRmS
          (inv okzz_RmS eaz_RmS
            [(0, false, [C.tr false (eL 11 Rm.cs a.2)]), (0, false, [C.tr false (T.int IntKind.i64 1048576)])]) -
        (↑a.3.length : Int)) <
    0) then
  some ([(false, [.tr true (T.bool true)])], [(false, []), (false, [])])
 else
 gd (dom okzz_RmS eaz_RmS
  [(0, false, [C.tr false (eL 11 Rm.cs b.2)]),
    (0, false,
      [C.tr false
          (T.int IntKind.i64
            (IntKind.i64.wrap
              (f_szRmS
                  (inv okzz_RmS eaz_RmS
                    [(0, false, [C.tr false (eL 11 Rm.cs a.2)]),
                      (0, false, [C.tr false (T.int IntKind.i64 1048576)])]) -
                (↑a.3.length : Int))))])]) <|
 bif decide
  (f_szRmS
      (inv okzz_RmS eaz_RmS
        [(0, false, [C.tr false (eL 11 Rm.cs b.2)]),
          (0, false,
            [C.tr false
                (T.int IntKind.i64
                  (IntKind.i64.wrap
                    (f_szRmS
                        (inv okzz_RmS eaz_RmS
                          [(0, false, [C.tr false (eL 11 Rm.cs a.2)]),
                            (0, false, [C.tr false (T.int IntKind.i64 1048576)])]) -
                      (↑a.3.length : Int))))])]) <
    0) then
  some ([(false, [.tr true (T.bool true)])], [(false, []), (false, [])])
 else
 bif decide
  (IntKind.i64.wrap
      (f_szRmS
          (inv okzz_RmS eaz_RmS
            [(0, false, [C.tr false (eL 11 Rm.cs b.2)]),
              (0, false,
                [C.tr false
                    (T.int IntKind.i64
                      (IntKind.i64.wrap
                        (f_szRmS
                            (inv okzz_RmS eaz_RmS
                              [(0, false, [C.tr false (eL 11 Rm.cs a.2)]),
                                (0, false, [C.tr false (T.int IntKind.i64 1048576)])]) -
                          (↑a.3.length : Int))))])]) -
        (↑b.3.length : Int)) <
    0) then
  some ([(false, [.tr true (T.bool true)])], [(false, []), (false, [])])
 else
 bif decide
  (IntKind.i64.wrap
      (f_szRmS
          (inv okzz_RmS eaz_RmS
            [(0, false, [C.tr false (eL 11 Rm.cs b.2)]),
              (0, false,
                [C.tr false
                    (T.int IntKind.i64
                      (IntKind.i64.wrap
                        (f_szRmS
                            (inv okzz_RmS eaz_RmS
                              [(0, false, [C.tr false (eL 11 Rm.cs a.2)]),
                                (0, false, [C.tr false (T.int IntKind.i64 1048576)])]) -
                          (↑a.3.length : Int))))])]) -
        (↑b.3.length : Int)) <
    0) then
  some ([(false, [.tr true (T.bool true)])], [(false, []), (false, [])])
 else
 bif decide
  (IntKind.i64.wrap
      (f_szRmS
          (inv okzz_RmS eaz_RmS
            [(0, false, [C.tr false (eL 11 Rm.cs b.2)]),
              (0, false,
                [C.tr false
                    (T.int IntKind.i64
                      (IntKind.i64.wrap
                        (f_szRmS
                            (inv okzz_RmS eaz_RmS
                              [(0, false, [C.tr false (eL 11 Rm.cs a.2)]),
                                (0, false, [C.tr false (T.int IntKind.i64 1048576)])]) -
                          (↑a.3.length : Int))))])]) -
        (↑b.3.length : Int)) <
    0) then
  some ([(false, [.tr true (T.bool true)])], [(false, []), (false, [])])
 else
 gd (dom ok_RmS ea_RmS [(0, false, [C.tr false (eL 11 Rm.cs a.2)])]) <|
 gd ((inv ok_RmS ea_RmS [(0, false, [C.tr false (eL 11 Rm.cs a.2)])]).length.ble
    (inv ok_RmS ea_RmS [(0, false, [C.tr false (eL 11 Rm.cs a.2)])]).length &&
  true) <|
 gd (dom ok_LI ea_LI [(0, false, [C.tr false (eL 1 rowI a.3)])]) <|
 gd ((inv ok_LI ea_LI [(0, false, [C.tr false (eL 1 rowI a.3)])]).length.ble
    (inv ok_LI ea_LI [(0, false, [C.tr false (eL 1 rowI a.3)])]).length &&
  true) <|
 gd ((inv ok_RmS ea_RmS [(0, false, [C.tr false (eL 11 Rm.cs a.2)])]).length.ble
    (inv ok_RmS ea_RmS [(0, false, [C.tr false (eL 11 Rm.cs a.2)])]).length &&
  true) <|
 gd ((inv ok_LI ea_LI [(0, false, [C.tr false (eL 1 rowI a.3)])]).length.ble
    (inv ok_LI ea_LI [(0, false, [C.tr false (eL 1 rowI a.3)])]).length &&
  true) <|
 gd ((inv ok_RmS ea_RmS [(0, false, [C.tr false (eL 11 Rm.cs a.2)])]).length.ble
    (inv ok_RmS ea_RmS [(0, false, [C.tr false (eL 11 Rm.cs a.2)])]).length &&
  true) <|
 gd ((inv ok_LI ea_LI [(0, false, [C.tr false (eL 1 rowI a.3)])]).length.ble
    (inv ok_LI ea_LI [(0, false, [C.tr false (eL 1 rowI a.3)])]).length &&
  true) <|
 gd (dom ok_RmS ea_RmS [(0, false, [C.tr false (eL 11 Rm.cs b.2)])]) <|
 gd ((inv ok_RmS ea_RmS [(0, false, [C.tr false (eL 11 Rm.cs b.2)])]).length.ble
    (inv ok_RmS ea_RmS [(0, false, [C.tr false (eL 11 Rm.cs b.2)])]).length &&
  true) <|
 gd (dom ok_LI ea_LI [(0, false, [C.tr false (eL 1 rowI b.3)])]) <|
 gd ((inv ok_LI ea_LI [(0, false, [C.tr false (eL 1 rowI b.3)])]).length.ble
    (inv ok_LI ea_LI [(0, false, [C.tr false (eL 1 rowI b.3)])]).length &&
  true) <|
 gd ((inv ok_RmS ea_RmS [(0, false, [C.tr false (eL 11 Rm.cs b.2)])]).length.ble
    (inv ok_RmS ea_RmS [(0, false, [C.tr false (eL 11 Rm.cs b.2)])]).length &&
  true) <|
 gd ((inv ok_LI ea_LI [(0, false, [C.tr false (eL 1 rowI b.3)])]).length.ble
    (inv ok_LI ea_LI [(0, false, [C.tr false (eL 1 rowI b.3)])]).length &&
  true) <|
 gd ((inv ok_RmS ea_RmS [(0, false, [C.tr false (eL 11 Rm.cs b.2)])]).length.ble
    (inv ok_RmS ea_RmS [(0, false, [C.tr false (eL 11 Rm.cs b.2)])]).length &&
  true) <|
 gd ((inv ok_LI ea_LI [(0, false, [C.tr false (eL 1 rowI b.3)])]).length.ble
    (inv ok_LI ea_LI [(0, false, [C.tr false (eL 1 rowI b.3)])]).length &&
  true) <|
 gd ((0 + (inv ok_RmS ea_RmS [(0, false, [C.tr false (eL 11 Rm.cs a.2)])]).length).ble
  (inv ok_RmS ea_RmS [(0, false, [C.tr false (eL 11 Rm.cs a.2)])]).length) <|
 gd ((0 + (inv ok_LI ea_LI [(0, false, [C.tr false (eL 1 rowI a.3)])]).length).ble
  (inv ok_LI ea_LI [(0, false, [C.tr false (eL 1 rowI a.3)])]).length) <|
 gd ((0 + (inv ok_RmS ea_RmS [(0, false, [C.tr false (eL 11 Rm.cs b.2)])]).length).ble
  (inv ok_RmS ea_RmS [(0, false, [C.tr false (eL 11 Rm.cs b.2)])]).length) <|
 gd ((0 + (inv ok_LI ea_LI [(0, false, [C.tr false (eL 1 rowI b.3)])]).length).ble
  (inv ok_LI ea_LI [(0, false, [C.tr false (eL 1 rowI b.3)])]).length) <|
 gd (dom ok_sSameModel ea_sSameModel
  [(0, true,
      [C.tr false (T.int IntKind.i64 a.c.1), C.tr false (T.int IntKind.i64 a.c.2),
        C.tr false (T.int IntKind.i64 a.c.3), C.tr false (T.int IntKind.i64 a.c.4),
        C.tr false (T.int IntKind.i64 a.c.5), C.tr false (T.int IntKind.i64 a.c.6),
        C.tr false
          (T.arr 11 (inv ok_RmS ea_RmS [(0, false, [C.tr false (eL 11 Rm.cs a.2)])]).length
            (cutT 0 (inv ok_RmS ea_RmS [(0, false, [C.tr false (eL 11 Rm.cs a.2)])]).length
              (eL 11 Rm.cs (inv ok_RmS ea_RmS [(0, false, [C.tr false (eL 11 Rm.cs a.2)])])).fn)),
        C.tr false
          (T.arr 1 (inv ok_LI ea_LI [(0, false, [C.tr false (eL 1 rowI a.3)])]).length
            (cutT 0 (inv ok_LI ea_LI [(0, false, [C.tr false (eL 1 rowI a.3)])]).length
              (atL rowI (inv ok_LI ea_LI [(0, false, [C.tr false (eL 1 rowI a.3)])]))))]),
    (0, true,
      [C.tr false (T.int IntKind.i64 b.c.1), C.tr false (T.int IntKind.i64 b.c.2),
        C.tr false (T.int IntKind.i64 b.c.3), C.tr false (T.int IntKind.i64 b.c.4),
        C.tr false (T.int IntKind.i64 b.c.5), C.tr false (T.int IntKind.i64 b.c.6),
        C.tr false
          (T.arr 11 (inv ok_RmS ea_RmS [(0, false, [C.tr false (eL 11 Rm.cs b.2)])]).length
            (cutT 0 (inv ok_RmS ea_RmS [(0, false, [C.tr false (eL 11 Rm.cs b.2)])]).length
              (eL 11 Rm.cs (inv ok_RmS ea_RmS [(0, false, [C.tr false (eL 11 Rm.cs b.2)])])).fn)),
        C.tr false
          (T.arr 1 (inv ok_LI ea_LI [(0, false, [C.tr false (eL 1 rowI b.3)])]).length
            (cutT 0 (inv ok_LI ea_LI [(0, false, [C.tr false (eL 1 rowI b.3)])]).length
              (atL rowI (inv ok_LI ea_LI [(0, false, [C.tr false (eL 1 rowI b.3)])]))))])]) <|
 gd (dom ok_RmS ea_RmS [(0, false, [C.tr false (eL 11 Rm.cs a.2)])]) <|
 gd ((inv ok_RmS ea_RmS [(0, false, [C.tr false (eL 11 Rm.cs a.2)])]).length.ble
    (inv ok_RmS ea_RmS [(0, false, [C.tr false (eL 11 Rm.cs a.2)])]).length &&
  true) <|
 gd (dom ok_LI ea_LI [(0, false, [C.tr false (eL 1 rowI a.3)])]) <|
 gd ((inv ok_LI ea_LI [(0, false, [C.tr false (eL 1 rowI a.3)])]).length.ble
    (inv ok_LI ea_LI [(0, false, [C.tr false (eL 1 rowI a.3)])]).length &&
  true) <|
 gd ((inv ok_RmS ea_RmS [(0, false, [C.tr false (eL 11 Rm.cs a.2)])]).length.ble
    (inv ok_RmS ea_RmS [(0, false, [C.tr false (eL 11 Rm.cs a.2)])]).length &&
  true) <|
 gd ((inv ok_LI ea_LI [(0, false, [C.tr false (eL 1 rowI a.3)])]).length.ble
    (inv ok_LI ea_LI [(0, false, [C.tr false (eL 1 rowI a.3)])]).length &&
  true) <|
 gd ((inv ok_RmS ea_RmS [(0, false, [C.tr false (eL 11 Rm.cs a.2)])]).length.ble
    (inv ok_RmS ea_RmS [(0, false, [C.tr false (eL 11 Rm.cs a.2)])]).length &&
  true) <|
 gd ((inv ok_LI ea_LI [(0, false, [C.tr false (eL 1 rowI a.3)])]).length.ble
    (inv ok_LI ea_LI [(0, false, [C.tr false (eL 1 rowI a.3)])]).length &&
  true) <|
 gd ((inv ok_RmS ea_RmS [(0, false, [C.tr false (eL 11 Rm.cs a.2)])]).length.ble
    (inv ok_RmS ea_RmS [(0, false, [C.tr false (eL 11 Rm.cs a.2)])]).length &&
  true) <|
 gd ((inv ok_LI ea_LI [(0, false, [C.tr false (eL 1 rowI a.3)])]).length.ble
    (inv ok_LI ea_LI [(0, false, [C.tr false (eL 1 rowI a.3)])]).length &&
  true) <|
 gd (dom ok_RmS ea_RmS [(0, false, [C.tr false (eL 11 Rm.cs b.2)])]) <|
 gd ((inv ok_RmS ea_RmS [(0, false, [C.tr false (eL 11 Rm.cs b.2)])]).length.ble
    (inv ok_RmS ea_RmS [(0, false, [C.tr false (eL 11 Rm.cs b.2)])]).length &&
  true) <|
 gd (dom ok_LI ea_LI [(0, false, [C.tr false (eL 1 rowI b.3)])]) <|
 gd ((inv ok_LI ea_LI [(0, false, [C.tr false (eL 1 rowI b.3)])]).length.ble
    (inv ok_LI ea_LI [(0, false, [C.tr false (eL 1 rowI b.3)])]).length &&
  true) <|
 gd ((inv ok_RmS ea_RmS [(0, false, [C.tr false (eL 11 Rm.cs b.2)])]).length.ble
    (inv ok_RmS ea_RmS [(0, false, [C.tr false (eL 11 Rm.cs b.2)])]).length &&
  true) <|
 gd ((inv ok_LI ea_LI [(0, false, [C.tr false (eL 1 rowI b.3)])]).length.ble
    (inv ok_LI ea_LI [(0, false, [C.tr false (eL 1 rowI b.3)])]).length &&
  true) <|
 gd ((inv ok_RmS ea_RmS [(0, false, [C.tr false (eL 11 Rm.cs b.2)])]).length.ble
    (inv ok_RmS ea_RmS [(0, false, [C.tr false (eL 11 Rm.cs b.2)])]).length &&
  true) <|
 gd ((inv ok_LI ea_LI [(0, false, [C.tr false (eL 1 rowI b.3)])]).length.ble
    (inv ok_LI ea_LI [(0, false, [C.tr false (eL 1 rowI b.3)])]).length &&
  true) <|
 gd ((inv ok_RmS ea_RmS [(0, false, [C.tr false (eL 11 Rm.cs b.2)])]).length.ble
    (inv ok_RmS ea_RmS [(0, false, [C.tr false (eL 11 Rm.cs b.2)])]).length &&
  true) <|
 gd ((inv ok_LI ea_LI [(0, false, [C.tr false (eL 1 rowI b.3)])]).length.ble
    (inv ok_LI ea_LI [(0, false, [C.tr false (eL 1 rowI b.3)])]).length &&
  true) <|
 gd ((0 + (inv ok_RmS ea_RmS [(0, false, [C.tr false (eL 11 Rm.cs a.2)])]).length).ble
  (inv ok_RmS ea_RmS [(0, false, [C.tr false (eL 11 Rm.cs a.2)])]).length) <|
 gd ((0 + (inv ok_LI ea_LI [(0, false, [C.tr false (eL 1 rowI a.3)])]).length).ble
  (inv ok_LI ea_LI [(0, false, [C.tr false (eL 1 rowI a.3)])]).length) <|
 gd ((0 + (inv ok_RmS ea_RmS [(0, false, [C.tr false (eL 11 Rm.cs b.2)])]).length).ble
  (inv ok_RmS ea_RmS [(0, false, [C.tr false (eL 11 Rm.cs b.2)])]).length) <|
 gd ((0 + (inv ok_LI ea_LI [(0, false, [C.tr false (eL 1 rowI b.3)])]).length).ble
  (inv ok_LI ea_LI [(0, false, [C.tr false (eL 1 rowI b.3)])]).length) <|
 gd (dom ok_iSameModel ea_iSameModel
  [(0, true,
      [C.tr false (T.int IntKind.i64 a.c.1), C.tr false (T.int IntKind.i64 a.c.2),
        C.tr false (T.int IntKind.i64 a.c.3), C.tr false (T.int IntKind.i64 a.c.4),
        C.tr false (T.int IntKind.i64 a.c.5), C.tr false (T.int IntKind.i64 a.c.6),
        C.tr false
          (T.arr 11 (inv ok_RmS ea_RmS [(0, false, [C.tr false (eL 11 Rm.cs a.2)])]).length
            (cutT 0 (inv ok_RmS ea_RmS [(0, false, [C.tr false (eL 11 Rm.cs a.2)])]).length
              (eL 11 Rm.cs (inv ok_RmS ea_RmS [(0, false, [C.tr false (eL 11 Rm.cs a.2)])])).fn)),
        C.tr false
          (T.arr 1 (inv ok_LI ea_LI [(0, false, [C.tr false (eL 1 rowI a.3)])]).length
            (cutT 0 (inv ok_LI ea_LI [(0, false, [C.tr false (eL 1 rowI a.3)])]).length
              (atL rowI (inv ok_LI ea_LI [(0, false, [C.tr false (eL 1 rowI a.3)])]))))]),
    (0, true,
      [C.tr false (T.int IntKind.i64 b.c.1), C.tr false (T.int IntKind.i64 b.c.2),
        C.tr false (T.int IntKind.i64 b.c.3), C.tr false (T.int IntKind.i64 b.c.4),
        C.tr false (T.int IntKind.i64 b.c.5), C.tr false (T.int IntKind.i64 b.c.6),
        C.tr false
          (T.arr 11 (inv ok_RmS ea_RmS [(0, false, [C.tr false (eL 11 Rm.cs b.2)])]).length
            (cutT 0 (inv ok_RmS ea_RmS [(0, false, [C.tr false (eL 11 Rm.cs b.2)])]).length
              (eL 11 Rm.cs (inv ok_RmS ea_RmS [(0, false, [C.tr false (eL 11 Rm.cs b.2)])])).fn)),
        C.tr false
          (T.arr 1 (inv ok_LI ea_LI [(0, false, [C.tr false (eL 1 rowI b.3)])]).length
            (cutT 0 (inv ok_LI ea_LI [(0, false, [C.tr false (eL 1 rowI b.3)])]).length
              (atL rowI (inv ok_LI ea_LI [(0, false, [C.tr false (eL 1 rowI b.3)])]))))])]) <|
 bif !f_iSameModel
      (inv ok_iSameModel ea_iSameModel
        [(0, true,
            [C.tr false (T.int IntKind.i64 a.c.1), C.tr false (T.int IntKind.i64 a.c.2),
              C.tr false (T.int IntKind.i64 a.c.3), C.tr false (T.int IntKind.i64 a.c.4),
              C.tr false (T.int IntKind.i64 a.c.5), C.tr false (T.int IntKind.i64 a.c.6),
              C.tr false
                (T.arr 11 (inv ok_RmS ea_RmS [(0, false, [C.tr false (eL 11 Rm.cs a.2)])]).length
                  (cutT 0 (inv ok_RmS ea_RmS [(0, false, [C.tr false (eL 11 Rm.cs a.2)])]).length
                    (eL 11 Rm.cs (inv ok_RmS ea_RmS [(0, false, [C.tr false (eL 11 Rm.cs a.2)])])).fn)),
              C.tr false
                (T.arr 1 (inv ok_LI ea_LI [(0, false, [C.tr false (eL 1 rowI a.3)])]).length
                  (cutT 0 (inv ok_LI ea_LI [(0, false, [C.tr false (eL 1 rowI a.3)])]).length
                    (atL rowI (inv ok_LI ea_LI [(0, false, [C.tr false (eL 1 rowI a.3)])]))))]),
          (0, true,
            [C.tr false (T.int IntKind.i64 b.c.1), C.tr false (T.int IntKind.i64 b.c.2),
              C.tr false (T.int IntKind.i64 b.c.3), C.tr false (T.int IntKind.i64 b.c.4),
              C.tr false (T.int IntKind.i64 b.c.5), C.tr false (T.int IntKind.i64 b.c.6),
              C.tr false
                (T.arr 11 (inv ok_RmS ea_RmS [(0, false, [C.tr false (eL 11 Rm.cs b.2)])]).length
                  (cutT 0 (inv ok_RmS ea_RmS [(0, false, [C.tr false (eL 11 Rm.cs b.2)])]).length
                    (eL 11 Rm.cs (inv ok_RmS ea_RmS [(0, false, [C.tr false (eL 11 Rm.cs b.2)])])).fn)),
              C.tr false
                (T.arr 1 (inv ok_LI ea_LI [(0, false, [C.tr false (eL 1 rowI b.3)])]).length
                  (cutT 0 (inv ok_LI ea_LI [(0, false, [C.tr false (eL 1 rowI b.3)])]).length
                    (atL rowI (inv ok_LI ea_LI [(0, false, [C.tr false (eL 1 rowI b.3)])]))))])]) ==
    f_sSameModel
      (inv ok_sSameModel ea_sSameModel
        [(0, true,
            [C.tr false (T.int IntKind.i64 a.c.1), C.tr false (T.int IntKind.i64 a.c.2),
              C.tr false (T.int IntKind.i64 a.c.3), C.tr false (T.int IntKind.i64 a.c.4),
              C.tr false (T.int IntKind.i64 a.c.5), C.tr false (T.int IntKind.i64 a.c.6),
              C.tr false
                (T.arr 11 (inv ok_RmS ea_RmS [(0, false, [C.tr false (eL 11 Rm.cs a.2)])]).length
                  (cutT 0 (inv ok_RmS ea_RmS [(0, false, [C.tr false (eL 11 Rm.cs a.2)])]).length
                    (eL 11 Rm.cs (inv ok_RmS ea_RmS [(0, false, [C.tr false (eL 11 Rm.cs a.2)])])).fn)),
              C.tr false
                (T.arr 1 (inv ok_LI ea_LI [(0, false, [C.tr false (eL 1 rowI a.3)])]).length
                  (cutT 0 (inv ok_LI ea_LI [(0, false, [C.tr false (eL 1 rowI a.3)])]).length
                    (atL rowI (inv ok_LI ea_LI [(0, false, [C.tr false (eL 1 rowI a.3)])]))))]),
          (0, true,
            [C.tr false (T.int IntKind.i64 b.c.1), C.tr false (T.int IntKind.i64 b.c.2),
              C.tr false (T.int IntKind.i64 b.c.3), C.tr false (T.int IntKind.i64 b.c.4),
              C.tr false (T.int IntKind.i64 b.c.5), C.tr false (T.int IntKind.i64 b.c.6),
              C.tr false
                (T.arr 11 (inv ok_RmS ea_RmS [(0, false, [C.tr false (eL 11 Rm.cs b.2)])]).length
                  (cutT 0 (inv ok_RmS ea_RmS [(0, false, [C.tr false (eL 11 Rm.cs b.2)])]).length
                    (eL 11 Rm.cs (inv ok_RmS ea_RmS [(0, false, [C.tr false (eL 11 Rm.cs b.2)])])).fn)),
              C.tr false
                (T.arr 1 (inv ok_LI ea_LI [(0, false, [C.tr false (eL 1 rowI b.3)])]).length
                  (cutT 0 (inv ok_LI ea_LI [(0, false, [C.tr false (eL 1 rowI b.3)])]).length
                    (atL rowI (inv ok_LI ea_LI [(0, false, [C.tr false (eL 1 rowI b.3)])]))))])]) then
  some ([(false, [.tr true (T.bool false)])], [(false, []), (false, [])])
 else
 gd (dom ok_RmS ea_RmS [(0, false, [C.tr false (eL 11 Rm.cs a.2)])]) <|
 gd ((inv ok_RmS ea_RmS [(0, false, [C.tr false (eL 11 Rm.cs a.2)])]).length.ble
    (inv ok_RmS ea_RmS [(0, false, [C.tr false (eL 11 Rm.cs a.2)])]).length &&
  true) <|
 gd (dom ok_LI ea_LI [(0, false, [C.tr false (eL 1 rowI a.3)])]) <|
 gd ((inv ok_LI ea_LI [(0, false, [C.tr false (eL 1 rowI a.3)])]).length.ble
    (inv ok_LI ea_LI [(0, false, [C.tr false (eL 1 rowI a.3)])]).length &&
  true) <|
 gd ((inv ok_RmS ea_RmS [(0, false, [C.tr false (eL 11 Rm.cs a.2)])]).length.ble
    (inv ok_RmS ea_RmS [(0, false, [C.tr false (eL 11 Rm.cs a.2)])]).length &&
  true) <|
 gd ((inv ok_LI ea_LI [(0, false, [C.tr false (eL 1 rowI a.3)])]).length.ble
    (inv ok_LI ea_LI [(0, false, [C.tr false (eL 1 rowI a.3)])]).length &&
  true) <|
 gd ((inv ok_RmS ea_RmS [(0, false, [C.tr false (eL 11 Rm.cs a.2)])]).length.ble
    (inv ok_RmS ea_RmS [(0, false, [C.tr false (eL 11 Rm.cs a.2)])]).length &&
  true) <|
 gd ((inv ok_LI ea_LI [(0, false, [C.tr false (eL 1 rowI a.3)])]).length.ble
    (inv ok_LI ea_LI [(0, false, [C.tr false (eL 1 rowI a.3)])]).length &&
  true) <|
 gd ((0 + (inv ok_RmS ea_RmS [(0, false, [C.tr false (eL 11 Rm.cs a.2)])]).length).ble
  (inv ok_RmS ea_RmS [(0, false, [C.tr false (eL 11 Rm.cs a.2)])]).length) <|
 gd ((0 + (inv ok_LI ea_LI [(0, false, [C.tr false (eL 1 rowI a.3)])]).length).ble
  (inv ok_LI ea_LI [(0, false, [C.tr false (eL 1 rowI a.3)])]).length) <|
 gd ((0 + (inv ok_RmS ea_RmS [(0, false, [C.tr false (eL 11 Rm.cs a.2)])]).length).ble
  (inv ok_RmS ea_RmS [(0, false, [C.tr false (eL 11 Rm.cs a.2)])]).length) <|
 gd ((0 + (inv ok_LI ea_LI [(0, false, [C.tr false (eL 1 rowI a.3)])]).length).ble
  (inv ok_LI ea_LI [(0, false, [C.tr false (eL 1 rowI a.3)])]).length) <|
 gd (dom ok_EqMl ea_EqMl
  [(0, true,
      [C.tr false (T.int IntKind.i64 a.c.1), C.tr false (T.int IntKind.i64 a.c.2),
        C.tr false (T.int IntKind.i64 a.c.3), C.tr false (T.int IntKind.i64 a.c.4),
        C.tr false (T.int IntKind.i64 a.c.5), C.tr false (T.int IntKind.i64 a.c.6),
        C.tr false
          (T.arr 11 (inv ok_RmS ea_RmS [(0, false, [C.tr false (eL 11 Rm.cs a.2)])]).length
            (cutT 0 (inv ok_RmS ea_RmS [(0, false, [C.tr false (eL 11 Rm.cs a.2)])]).length
              (eL 11 Rm.cs (inv ok_RmS ea_RmS [(0, false, [C.tr false (eL 11 Rm.cs a.2)])])).fn)),
        C.tr false
          (T.arr 1 (inv ok_LI ea_LI [(0, false, [C.tr false (eL 1 rowI a.3)])]).length
            (cutT 0 (inv ok_LI ea_LI [(0, false, [C.tr false (eL 1 rowI a.3)])]).length
              (atL rowI (inv ok_LI ea_LI [(0, false, [C.tr false (eL 1 rowI a.3)])]))))]),
    (0, true,
      [C.tr false (T.int IntKind.i64 a.c.1), C.tr false (T.int IntKind.i64 a.c.2),
        C.tr false (T.int IntKind.i64 a.c.3), C.tr false (T.int IntKind.i64 a.c.4),
        C.tr false (T.int IntKind.i64 a.c.5), C.tr false (T.int IntKind.i64 a.c.6),
        C.tr false
          (T.arr 11 (inv ok_RmS ea_RmS [(0, false, [C.tr false (eL 11 Rm.cs a.2)])]).length
            (cutT 0 (inv ok_RmS ea_RmS [(0, false, [C.tr false (eL 11 Rm.cs a.2)])]).length
              (eL 11 Rm.cs (inv ok_RmS ea_RmS [(0, false, [C.tr false (eL 11 Rm.cs a.2)])])).fn)),
        C.tr false
          (T.arr 1 (inv ok_LI ea_LI [(0, false, [C.tr false (eL 1 rowI a.3)])]).length
            (cutT 0 (inv ok_LI ea_LI [(0, false, [C.tr false (eL 1 rowI a.3)])]).length
              (atL rowI (inv ok_LI ea_LI [(0, false, [C.tr false (eL 1 rowI a.3)])]))))])]) <|
 bif !f_EqMl
    (inv ok_EqMl ea_EqMl
      [(0, true,
          [C.tr false (T.int IntKind.i64 a.c.1), C.tr false (T.int IntKind.i64 a.c.2),
            C.tr false (T.int IntKind.i64 a.c.3), C.tr false (T.int IntKind.i64 a.c.4),
            C.tr false (T.int IntKind.i64 a.c.5), C.tr false (T.int IntKind.i64 a.c.6),
            C.tr false
              (T.arr 11 (inv ok_RmS ea_RmS [(0, false, [C.tr false (eL 11 Rm.cs a.2)])]).length
                (cutT 0 (inv ok_RmS ea_RmS [(0, false, [C.tr false (eL 11 Rm.cs a.2)])]).length
                  (eL 11 Rm.cs (inv ok_RmS ea_RmS [(0, false, [C.tr false (eL 11 Rm.cs a.2)])])).fn)),
            C.tr false
              (T.arr 1 (inv ok_LI ea_LI [(0, false, [C.tr false (eL 1 rowI a.3)])]).length
                (cutT 0 (inv ok_LI ea_LI [(0, false, [C.tr false (eL 1 rowI a.3)])]).length
                  (atL rowI (inv ok_LI ea_LI [(0, false, [C.tr false (eL 1 rowI a.3)])]))))]),
        (0, true,
          [C.tr false (T.int IntKind.i64 a.c.1), C.tr false (T.int IntKind.i64 a.c.2),
            C.tr false (T.int IntKind.i64 a.c.3), C.tr false (T.int IntKind.i64 a.c.4),
            C.tr false (T.int IntKind.i64 a.c.5), C.tr false (T.int IntKind.i64 a.c.6),
            C.tr false
              (T.arr 11 (inv ok_RmS ea_RmS [(0, false, [C.tr false (eL 11 Rm.cs a.2)])]).length
                (cutT 0 (inv ok_RmS ea_RmS [(0, false, [C.tr false (eL 11 Rm.cs a.2)])]).length
                  (eL 11 Rm.cs (inv ok_RmS ea_RmS [(0, false, [C.tr false (eL 11 Rm.cs a.2)])])).fn)),
            C.tr false
              (T.arr 1 (inv ok_LI ea_LI [(0, false, [C.tr false (eL 1 rowI a.3)])]).length
                (cutT 0 (inv ok_LI ea_LI [(0, false, [C.tr false (eL 1 rowI a.3)])]).length
                  (atL rowI (inv ok_LI ea_LI [(0, false, [C.tr false (eL 1 rowI a.3)])]))))])]) then
  some ([(false, [.tr true (T.bool false)])], [(false, []), (false, [])])
 else
 gd (dom ok_RmS ea_RmS [(0, false, [C.tr false (eL 11 Rm.cs b.2)])]) <|
 gd ((inv ok_RmS ea_RmS [(0, false, [C.tr false (eL 11 Rm.cs b.2)])]).length.ble
    (inv ok_RmS ea_RmS [(0, false, [C.tr false (eL 11 Rm.cs b.2)])]).length &&
  true) <|
 gd (dom ok_LI ea_LI [(0, false, [C.tr false (eL 1 rowI b.3)])]) <|
 gd ((inv ok_LI ea_LI [(0, false, [C.tr false (eL 1 rowI b.3)])]).length.ble
    (inv ok_LI ea_LI [(0, false, [C.tr false (eL 1 rowI b.3)])]).length &&
  true) <|
 gd ((inv ok_RmS ea_RmS [(0, false, [C.tr false (eL 11 Rm.cs b.2)])]).length.ble
    (inv ok_RmS ea_RmS [(0, false, [C.tr false (eL 11 Rm.cs b.2)])]).length &&
  true) <|
 gd ((inv ok_LI ea_LI [(0, false, [C.tr false (eL 1 rowI b.3)])]).length.ble
    (inv ok_LI ea_LI [(0, false, [C.tr false (eL 1 rowI b.3)])]).length &&
  true) <|
 gd ((inv ok_RmS ea_RmS [(0, false, [C.tr false (eL 11 Rm.cs b.2)])]).length.ble
    (inv ok_RmS ea_RmS [(0, false, [C.tr false (eL 11 Rm.cs b.2)])]).length &&
  true) <|
 gd ((inv ok_LI ea_LI [(0, false, [C.tr false (eL 1 rowI b.3)])]).length.ble
    (inv ok_LI ea_LI [(0, false, [C.tr false (eL 1 rowI b.3)])]).length &&
  true) <|
 gd ((0 + (inv ok_RmS ea_RmS [(0, false, [C.tr false (eL 11 Rm.cs b.2)])]).length).ble
  (inv ok_RmS ea_RmS [(0, false, [C.tr false (eL 11 Rm.cs b.2)])]).length) <|
 gd ((0 + (inv ok_LI ea_LI [(0, false, [C.tr false (eL 1 rowI b.3)])]).length).ble
  (inv ok_LI ea_LI [(0, false, [C.tr false (eL 1 rowI b.3)])]).length) <|
 gd ((0 + (inv ok_RmS ea_RmS [(0, false, [C.tr false (eL 11 Rm.cs b.2)])]).length).ble
  (inv ok_RmS ea_RmS [(0, false, [C.tr false (eL 11 Rm.cs b.2)])]).length) <|
 gd ((0 + (inv ok_LI ea_LI [(0, false, [C.tr false (eL 1 rowI b.3)])]).length).ble
  (inv ok_LI ea_LI [(0, false, [C.tr false (eL 1 rowI b.3)])]).length) <|
 gd (dom ok_EqMl ea_EqMl
  [(0, true,
      [C.tr false (T.int IntKind.i64 b.c.1), C.tr false (T.int IntKind.i64 b.c.2),
        C.tr false (T.int IntKind.i64 b.c.3), C.tr false (T.int IntKind.i64 b.c.4),
        C.tr false (T.int IntKind.i64 b.c.5), C.tr false (T.int IntKind.i64 b.c.6),
        C.tr false
          (T.arr 11 (inv ok_RmS ea_RmS [(0, false, [C.tr false (eL 11 Rm.cs b.2)])]).length
            (cutT 0 (inv ok_RmS ea_RmS [(0, false, [C.tr false (eL 11 Rm.cs b.2)])]).length
              (eL 11 Rm.cs (inv ok_RmS ea_RmS [(0, false, [C.tr false (eL 11 Rm.cs b.2)])])).fn)),
        C.tr false
          (T.arr 1 (inv ok_LI ea_LI [(0, false, [C.tr false (eL 1 rowI b.3)])]).length
            (cutT 0 (inv ok_LI ea_LI [(0, false, [C.tr false (eL 1 rowI b.3)])]).length
              (atL rowI (inv ok_LI ea_LI [(0, false, [C.tr false (eL 1 rowI b.3)])]))))]),
    (0, true,
      [C.tr false (T.int IntKind.i64 b.c.1), C.tr false (T.int IntKind.i64 b.c.2),
        C.tr false (T.int IntKind.i64 b.c.3), C.tr false (T.int IntKind.i64 b.c.4),
        C.tr false (T.int IntKind.i64 b.c.5), C.tr false (T.int IntKind.i64 b.c.6),
        C.tr false
          (T.arr 11 (inv ok_RmS ea_RmS [(0, false, [C.tr false (eL 11 Rm.cs b.2)])]).length
            (cutT 0 (inv ok_RmS ea_RmS [(0, false, [C.tr false (eL 11 Rm.cs b.2)])]).length
              (eL 11 Rm.cs (inv ok_RmS ea_RmS [(0, false, [C.tr false (eL 11 Rm.cs b.2)])])).fn)),
        C.tr false
          (T.arr 1 (inv ok_LI ea_LI [(0, false, [C.tr false (eL 1 rowI b.3)])]).length
            (cutT 0 (inv ok_LI ea_LI [(0, false, [C.tr false (eL 1 rowI b.3)])]).length
              (atL rowI (inv ok_LI ea_LI [(0, false, [C.tr false (eL 1 rowI b.3)])]))))])]) <|
 bif !f_EqMl
    (inv ok_EqMl ea_EqMl
      [(0, true,
          [C.tr false (T.int IntKind.i64 b.c.1), C.tr false (T.int IntKind.i64 b.c.2),
            C.tr false (T.int IntKind.i64 b.c.3), C.tr false (T.int IntKind.i64 b.c.4),
            C.tr false (T.int IntKind.i64 b.c.5), C.tr false (T.int IntKind.i64 b.c.6),
            C.tr false
              (T.arr 11 (inv ok_RmS ea_RmS [(0, false, [C.tr false (eL 11 Rm.cs b.2)])]).length
                (cutT 0 (inv ok_RmS ea_RmS [(0, false, [C.tr false (eL 11 Rm.cs b.2)])]).length
                  (eL 11 Rm.cs (inv ok_RmS ea_RmS [(0, false, [C.tr false (eL 11 Rm.cs b.2)])])).fn)),
            C.tr false
              (T.arr 1 (inv ok_LI ea_LI [(0, false, [C.tr false (eL 1 rowI b.3)])]).length
                (cutT 0 (inv ok_LI ea_LI [(0, false, [C.tr false (eL 1 rowI b.3)])]).length
                  (atL rowI (inv ok_LI ea_LI [(0, false, [C.tr false (eL 1 rowI b.3)])]))))]),
        (0, true,
          [C.tr false (T.int IntKind.i64 b.c.1), C.tr false (T.int IntKind.i64 b.c.2),
            C.tr false (T.int IntKind.i64 b.c.3), C.tr false (T.int IntKind.i64 b.c.4),
            C.tr false (T.int IntKind.i64 b.c.5), C.tr false (T.int IntKind.i64 b.c.6),
            C.tr false
              (T.arr 11 (inv ok_RmS ea_RmS [(0, false, [C.tr false (eL 11 Rm.cs b.2)])]).length
                (cutT 0 (inv ok_RmS ea_RmS [(0, false, [C.tr false (eL 11 Rm.cs b.2)])]).length
                  (eL 11 Rm.cs (inv ok_RmS ea_RmS [(0, false, [C.tr false (eL 11 Rm.cs b.2)])])).fn)),
            C.tr false
              (T.arr 1 (inv ok_LI ea_LI [(0, false, [C.tr false (eL 1 rowI b.3)])]).length
                (cutT 0 (inv ok_LI ea_LI [(0, false, [C.tr false (eL 1 rowI b.3)])]).length
                  (atL rowI (inv ok_LI ea_LI [(0, false, [C.tr false (eL 1 rowI b.3)])]))))])]) then
  some ([(false, [.tr true (T.bool false)])], [(false, []), (false, [])])
 else
 some ([(false, [.tr true (T.bool true)])], [(false, []), (false, [])])) := by kernel_rfl
theorem body_xSameModel (a : Ml) (b : Ml) (ha : z_Ml a) (hb : z_Ml b) (n : Nat) : body prog (tabS [(i_szMl, e_szMl), (i_toMl, e_toMl), (i_sSameModel, e_sSameModel), (i_iSameModel, e_iSameModel), (i_EqMl, e_EqMl)]) kp_xSameModel n F_xSameModel [aR a.cs, aR b.cs] = some (erB 2 true) := by
  have hzm := zm
  have hlm := lm
  have hbm := bm
  have z0 : okz_RmS a.rooms := ha.1
  have z1 : okz_LI a.log := ha.2
  have z2 : okz_RmS b.rooms := hb.1
  have z3 : okz_LI b.log := hb.2
  rw [pre_xSameModel]
  have y0 : okzz_RmS (a.rooms, 1048576) := ⟨z0, by dsimp only; omega, by dsimp only; omega⟩
  simp only [lt_d, ge0_d, Int.toNat_natCast, blt_d, ble_self, beq_self, decide_true, cond_true, Bool.and_self, Bool.and_true, Bool.true_and, gd_true, Nat.zero_add, List.getD_cons_zero, List.getD_cons_succ, isI_int, toI_int, isB_bool, toB_bool, eL_T, arr_ln, arr_fn, arr_wd, arr_is, arr_get, Ml.cs, dm_szRmS y0, iv_szRmS y0]
  by_cases e0 : (n_RmS a.rooms : Int) ≤ 1048576
  case neg =>
    simp only [n_szRmS e0]
    simp only [decide_eq_true (show (-1 : Int) < 0 by omega), cond_true]
    rfl
  simp only [y_szRmS e0]
  simp (disch := omega) only [decide_eq_false (show ¬ 1048576 - (n_RmS a.rooms : Int) < 0 by omega), cond_false, wrapI]
  have y1 := (show a.log.length ≤ ZM from z1)
  try simp (disch := omega) only [wrapI]
  by_cases e1 : 1048576 - (n_RmS a.rooms : Int) - (a.log.length : Int) < 0
  · simp only [decide_eq_true e1, cond_true]
    rfl
  simp (disch := omega) only [decide_eq_false e1, cond_false, wrapI]
  have y2 : okzz_RmS (b.rooms, 1048576 - (n_RmS a.rooms : Int) - (a.log.length : Int)) := ⟨z2, by dsimp only; omega, by dsimp only; omega⟩
  simp only [lt_d, ge0_d, Int.toNat_natCast, blt_d, ble_self, beq_self, decide_true, cond_true, Bool.and_self, Bool.and_true, Bool.true_and, gd_true, Nat.zero_add, List.getD_cons_zero, List.getD_cons_succ, isI_int, toI_int, isB_bool, toB_bool, eL_T, arr_ln, arr_fn, arr_wd, arr_is, arr_get, Ml.cs, dm_szRmS y2, iv_szRmS y2]
  by_cases e2 : (n_RmS b.rooms : Int) ≤ 1048576 - (n_RmS a.rooms : Int) - (a.log.length : Int)
  case neg =>
    simp only [n_szRmS e2]
    simp only [decide_eq_true (show (-1 : Int) < 0 by omega), cond_true]
    rfl
  simp only [y_szRmS e2]
  simp (disch := omega) only [decide_eq_false (show ¬ 1048576 - (n_RmS a.rooms : Int) - (a.log.length : Int) - (n_RmS b.rooms : Int) < 0 by omega), cond_false, wrapI]
  have y3 := (show b.log.length ≤ ZM from z3)
  try simp (disch := omega) only [wrapI]
  by_cases e3 : 1048576 - (n_RmS a.rooms : Int) - (a.log.length : Int) - (n_RmS b.rooms : Int) - (b.log.length : Int) < 0
  · simp only [decide_eq_true e3, cond_true]
    rfl
  simp (disch := omega) only [decide_eq_false e3, cond_false, wrapI]
  obtain ⟨g0, q0⟩ := okn_RmS (l := a.rooms) (by omega)
  obtain ⟨g1, q1⟩ := okn_LI (l := a.log) (show (a.log.length : Int) ≤ 1048576 by omega)
  obtain ⟨g2, q2⟩ := okn_RmS (l := b.rooms) (by omega)
  obtain ⟨g3, q3⟩ := okn_LI (l := b.log) (show (b.log.length : Int) ≤ 1048576 by omega)
  have c0 : ok_sSameModel (a, b) := ⟨⟨g0.1, fun z hz => ⟨(g0.2 z hz).1.1, (g0.2 z hz).2.1.1, (g0.2 z hz).2.2⟩⟩, g1⟩
  have c1 : ok_iSameModel (a, b) := ⟨⟨g0.1, fun z hz => ⟨(g0.2 z hz).1.1, (g0.2 z hz).2.1.1, (g0.2 z hz).2.2⟩⟩, g1⟩
  have c2 : ok_EqMl (a, a) := ⟨q0, q1⟩
  have c3 : ok_EqMl (b, b) := ⟨q2, q3⟩
  simp only [lt_d, ge0_d, Int.toNat_natCast, blt_d, ble_self, beq_self, decide_true, cond_true, Bool.and_self, Bool.and_true, Bool.true_and, gd_true, Nat.zero_add, List.getD_cons_zero, List.getD_cons_succ, isI_int, toI_int, isB_bool, toB_bool, eL_T, arr_ln, arr_fn, arr_wd, arr_is, arr_get, Ml.cs, dm_toRmS g0, iv_toRmS g0, dm_toLI g1, iv_toLI g1, dm_toRmS g2, iv_toRmS g2, dm_toLI g3, iv_toLI g3, cut_all, dm_sSameModel c0, iv_sSameModel c0, d_sSameModel, dm_iSameModel c1, iv_iSameModel c1, d_iSameModel, dm_EqMl c2, iv_EqMl c2, d_EqMl, dm_EqMl c3, iv_EqMl c3, bool_self, bool_nself, int_self, int_nself, Bool.not_true, cond_false]
  rfl
theorem sd_xSameModel (a : Ml) (b : Ml) (ha : z_Ml a) (hb : z_Ml b) : Sound prog i_xSameModel [aR a.cs, aR b.cs] (erB 2 true).1 (erB 2 true).2 :=
  body_sound (φ := (tabS [(i_szMl, e_szMl), (i_toMl, e_toMl), (i_sSameModel, e_sSameModel), (i_iSameModel, e_iSameModel), (i_EqMl, e_EqMl)])) (tabS_cons s_szMl (tabS_cons s_toMl (tabS_cons s_sSameModel (tabS_cons s_iSameModel (tabS_cons s_EqMl tabS_nil))))) mixed (kp := kp_xSameModel) (n := 0) func9 (c := bodyOf F_xSameModel) (by kernel_rfl) (body_xSameModel a b ha hb 0) (name_ok (by kernel_rfl))
end Go.Mach.F