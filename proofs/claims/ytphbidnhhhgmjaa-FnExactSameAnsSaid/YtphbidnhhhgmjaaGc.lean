/- FnExactSameAns. Conditions: none. -/
import Derived.Test.YtphbidnhhhgmjaaGb
set_option linter.all false
namespace Go.Mach.F
open Go Go.Mach Go.Proofs.Try
--=set_option maxRecDepth 100000
def i_xSameAns : Nat := 3
noncomputable abbrev F_xSameAns : Func := f3
def kp_xSameAns : List (Nat × List Nat) := [(0, [8, 9, 12, 13]), (1, [8, 9, 12, 13, 20]), (2, [8, 9, 12, 13, 20]), (3, [8, 9, 12, 13, 20, 56]), (4, [16]), (5, [8, 9, 12, 13, 20]), (6, [8, 9, 12, 13, 76]), (7, [16]), (8, [8, 9, 12, 13, 24]), (9, [8, 9, 12, 13, 24, 28, 29, 104]), (10, [8, 9, 12, 13, 24, 28, 29, 32, 33, 104, 112]), (11, [8, 9, 12, 13, 24, 28, 29, 32, 33, 36, 104, 112]), (12, [8, 9, 12, 13, 28, 29, 32, 33, 104, 112, 136]), (13, [16]), (14, [12, 13, 32, 33, 112, 156]), (15, [16]), (16, [176]), (17, [16]), (18, [16])]
def ts_xSameAns : List Nat := [0, 0]
theorem pre_xSameAns (a : An) (b : An) (n : Nat) : body prog (tabS [(i_szAn, e_szAn), (i_toAn, e_toAn), (i_sSameAns, e_sSameAns), (i_iSameAns, e_iSameAns), (i_EqAn, e_EqAn)]) kp_xSameAns n F_xSameAns [aR a.cs, aR b.cs] = (
 bif decide (IntKind.i64.wrap (1048576 - (↑a.4.length : Int)) < 0) then
  some ([(false, [.tr true (T.bool true)])], [(false, []), (false, [])])
 else
 bif decide (IntKind.i64.wrap (1048576 - (↑a.4.length : Int)) < 0) then
  some ([(false, [.tr true (T.bool true)])], [(false, []), (false, [])])
 else
 bif decide (IntKind.i64.wrap (1048576 - (↑a.4.length : Int)) < 0) then
  some ([(false, [.tr true (T.bool true)])], [(false, []), (false, [])])
 else
 bif decide (IntKind.i64.wrap (IntKind.i64.wrap (1048576 - (↑a.4.length : Int)) - (↑b.4.length : Int)) < 0) then
  some ([(false, [.tr true (T.bool true)])], [(false, []), (false, [])])
 else
 bif decide (IntKind.i64.wrap (IntKind.i64.wrap (1048576 - (↑a.4.length : Int)) - (↑b.4.length : Int)) < 0) then
  some ([(false, [.tr true (T.bool true)])], [(false, []), (false, [])])
 else
 bif decide (IntKind.i64.wrap (IntKind.i64.wrap (1048576 - (↑a.4.length : Int)) - (↑b.4.length : Int)) < 0) then
  some ([(false, [.tr true (T.bool true)])], [(false, []), (false, [])])
 else
 gd (dom ok_LB ea_LB [(0, false, [C.tr false (eL 1 rowB a.4)])]) <|
 gd ((inv ok_LB ea_LB [(0, false, [C.tr false (eL 1 rowB a.4)])]).length.ble
    (inv ok_LB ea_LB [(0, false, [C.tr false (eL 1 rowB a.4)])]).length &&
  true) <|
 gd ((inv ok_LB ea_LB [(0, false, [C.tr false (eL 1 rowB a.4)])]).length.ble
    (inv ok_LB ea_LB [(0, false, [C.tr false (eL 1 rowB a.4)])]).length &&
  true) <|
 gd ((inv ok_LB ea_LB [(0, false, [C.tr false (eL 1 rowB a.4)])]).length.ble
    (inv ok_LB ea_LB [(0, false, [C.tr false (eL 1 rowB a.4)])]).length &&
  true) <|
 gd (dom ok_LB ea_LB [(0, false, [C.tr false (eL 1 rowB b.4)])]) <|
 gd ((inv ok_LB ea_LB [(0, false, [C.tr false (eL 1 rowB b.4)])]).length.ble
    (inv ok_LB ea_LB [(0, false, [C.tr false (eL 1 rowB b.4)])]).length &&
  true) <|
 gd ((inv ok_LB ea_LB [(0, false, [C.tr false (eL 1 rowB b.4)])]).length.ble
    (inv ok_LB ea_LB [(0, false, [C.tr false (eL 1 rowB b.4)])]).length &&
  true) <|
 gd ((inv ok_LB ea_LB [(0, false, [C.tr false (eL 1 rowB b.4)])]).length.ble
    (inv ok_LB ea_LB [(0, false, [C.tr false (eL 1 rowB b.4)])]).length &&
  true) <|
 gd ((0 + (inv ok_LB ea_LB [(0, false, [C.tr false (eL 1 rowB a.4)])]).length).ble
  (inv ok_LB ea_LB [(0, false, [C.tr false (eL 1 rowB a.4)])]).length) <|
 gd ((0 + (inv ok_LB ea_LB [(0, false, [C.tr false (eL 1 rowB b.4)])]).length).ble
  (inv ok_LB ea_LB [(0, false, [C.tr false (eL 1 rowB b.4)])]).length) <|
 gd (dom ok_sSameAns ea_sSameAns
  [(0, true,
      [C.tr false (T.int IntKind.i64 a.1), C.tr false (T.int IntKind.i64 a.h.1),
        C.tr false (T.int IntKind.i64 a.h.2), C.tr false (T.int IntKind.i64 a.r.h.1),
        C.tr false (T.int IntKind.i64 a.r.h.2), C.tr false (T.int IntKind.i64 a.r.2),
        C.tr false (T.int IntKind.i64 a.r.3),
        C.tr false
          (T.arr 1 (inv ok_LB ea_LB [(0, false, [C.tr false (eL 1 rowB a.4)])]).length
            (cutT 0 (inv ok_LB ea_LB [(0, false, [C.tr false (eL 1 rowB a.4)])]).length
              (atL rowB (inv ok_LB ea_LB [(0, false, [C.tr false (eL 1 rowB a.4)])])))),
        C.tr false (T.int IntKind.i64 a.5), C.tr false (T.int IntKind.i64 a.6), C.tr false (T.int IntKind.i64 a.7)]),
    (0, true,
      [C.tr false (T.int IntKind.i64 b.1), C.tr false (T.int IntKind.i64 b.h.1),
        C.tr false (T.int IntKind.i64 b.h.2), C.tr false (T.int IntKind.i64 b.r.h.1),
        C.tr false (T.int IntKind.i64 b.r.h.2), C.tr false (T.int IntKind.i64 b.r.2),
        C.tr false (T.int IntKind.i64 b.r.3),
        C.tr false
          (T.arr 1 (inv ok_LB ea_LB [(0, false, [C.tr false (eL 1 rowB b.4)])]).length
            (cutT 0 (inv ok_LB ea_LB [(0, false, [C.tr false (eL 1 rowB b.4)])]).length
              (atL rowB (inv ok_LB ea_LB [(0, false, [C.tr false (eL 1 rowB b.4)])])))),
        C.tr false (T.int IntKind.i64 b.5), C.tr false (T.int IntKind.i64 b.6), C.tr false (T.int IntKind.i64 b.7)])]) <|
 gd (dom ok_LB ea_LB [(0, false, [C.tr false (eL 1 rowB a.4)])]) <|
 gd ((inv ok_LB ea_LB [(0, false, [C.tr false (eL 1 rowB a.4)])]).length.ble
    (inv ok_LB ea_LB [(0, false, [C.tr false (eL 1 rowB a.4)])]).length &&
  true) <|
 gd ((inv ok_LB ea_LB [(0, false, [C.tr false (eL 1 rowB a.4)])]).length.ble
    (inv ok_LB ea_LB [(0, false, [C.tr false (eL 1 rowB a.4)])]).length &&
  true) <|
 gd ((inv ok_LB ea_LB [(0, false, [C.tr false (eL 1 rowB a.4)])]).length.ble
    (inv ok_LB ea_LB [(0, false, [C.tr false (eL 1 rowB a.4)])]).length &&
  true) <|
 gd ((inv ok_LB ea_LB [(0, false, [C.tr false (eL 1 rowB a.4)])]).length.ble
    (inv ok_LB ea_LB [(0, false, [C.tr false (eL 1 rowB a.4)])]).length &&
  true) <|
 gd (dom ok_LB ea_LB [(0, false, [C.tr false (eL 1 rowB b.4)])]) <|
 gd ((inv ok_LB ea_LB [(0, false, [C.tr false (eL 1 rowB b.4)])]).length.ble
    (inv ok_LB ea_LB [(0, false, [C.tr false (eL 1 rowB b.4)])]).length &&
  true) <|
 gd ((inv ok_LB ea_LB [(0, false, [C.tr false (eL 1 rowB b.4)])]).length.ble
    (inv ok_LB ea_LB [(0, false, [C.tr false (eL 1 rowB b.4)])]).length &&
  true) <|
 gd ((inv ok_LB ea_LB [(0, false, [C.tr false (eL 1 rowB b.4)])]).length.ble
    (inv ok_LB ea_LB [(0, false, [C.tr false (eL 1 rowB b.4)])]).length &&
  true) <|
 gd ((inv ok_LB ea_LB [(0, false, [C.tr false (eL 1 rowB b.4)])]).length.ble
    (inv ok_LB ea_LB [(0, false, [C.tr false (eL 1 rowB b.4)])]).length &&
  true) <|
 gd ((0 + (inv ok_LB ea_LB [(0, false, [C.tr false (eL 1 rowB a.4)])]).length).ble
  (inv ok_LB ea_LB [(0, false, [C.tr false (eL 1 rowB a.4)])]).length) <|
 gd ((0 + (inv ok_LB ea_LB [(0, false, [C.tr false (eL 1 rowB b.4)])]).length).ble
  (inv ok_LB ea_LB [(0, false, [C.tr false (eL 1 rowB b.4)])]).length) <|
 gd (dom ok_iSameAns ea_iSameAns
  [(0, true,
      [C.tr false (T.int IntKind.i64 a.1), C.tr false (T.int IntKind.i64 a.h.1),
        C.tr false (T.int IntKind.i64 a.h.2), C.tr false (T.int IntKind.i64 a.r.h.1),
        C.tr false (T.int IntKind.i64 a.r.h.2), C.tr false (T.int IntKind.i64 a.r.2),
        C.tr false (T.int IntKind.i64 a.r.3),
        C.tr false
          (T.arr 1 (inv ok_LB ea_LB [(0, false, [C.tr false (eL 1 rowB a.4)])]).length
            (cutT 0 (inv ok_LB ea_LB [(0, false, [C.tr false (eL 1 rowB a.4)])]).length
              (atL rowB (inv ok_LB ea_LB [(0, false, [C.tr false (eL 1 rowB a.4)])])))),
        C.tr false (T.int IntKind.i64 a.5), C.tr false (T.int IntKind.i64 a.6), C.tr false (T.int IntKind.i64 a.7)]),
    (0, true,
      [C.tr false (T.int IntKind.i64 b.1), C.tr false (T.int IntKind.i64 b.h.1),
        C.tr false (T.int IntKind.i64 b.h.2), C.tr false (T.int IntKind.i64 b.r.h.1),
        C.tr false (T.int IntKind.i64 b.r.h.2), C.tr false (T.int IntKind.i64 b.r.2),
        C.tr false (T.int IntKind.i64 b.r.3),
        C.tr false
          (T.arr 1 (inv ok_LB ea_LB [(0, false, [C.tr false (eL 1 rowB b.4)])]).length
            (cutT 0 (inv ok_LB ea_LB [(0, false, [C.tr false (eL 1 rowB b.4)])]).length
              (atL rowB (inv ok_LB ea_LB [(0, false, [C.tr false (eL 1 rowB b.4)])])))),
        C.tr false (T.int IntKind.i64 b.5), C.tr false (T.int IntKind.i64 b.6), C.tr false (T.int IntKind.i64 b.7)])]) <|
 bif !f_iSameAns
      (inv ok_iSameAns ea_iSameAns
        [(0, true,
            [C.tr false (T.int IntKind.i64 a.1), C.tr false (T.int IntKind.i64 a.h.1),
              C.tr false (T.int IntKind.i64 a.h.2), C.tr false (T.int IntKind.i64 a.r.h.1),
              C.tr false (T.int IntKind.i64 a.r.h.2), C.tr false (T.int IntKind.i64 a.r.2),
              C.tr false (T.int IntKind.i64 a.r.3),
              C.tr false
                (T.arr 1 (inv ok_LB ea_LB [(0, false, [C.tr false (eL 1 rowB a.4)])]).length
                  (cutT 0 (inv ok_LB ea_LB [(0, false, [C.tr false (eL 1 rowB a.4)])]).length
                    (atL rowB (inv ok_LB ea_LB [(0, false, [C.tr false (eL 1 rowB a.4)])])))),
              C.tr false (T.int IntKind.i64 a.5), C.tr false (T.int IntKind.i64 a.6),
              C.tr false (T.int IntKind.i64 a.7)]),
          (0, true,
            [C.tr false (T.int IntKind.i64 b.1), C.tr false (T.int IntKind.i64 b.h.1),
              C.tr false (T.int IntKind.i64 b.h.2), C.tr false (T.int IntKind.i64 b.r.h.1),
              C.tr false (T.int IntKind.i64 b.r.h.2), C.tr false (T.int IntKind.i64 b.r.2),
              C.tr false (T.int IntKind.i64 b.r.3),
              C.tr false
                (T.arr 1 (inv ok_LB ea_LB [(0, false, [C.tr false (eL 1 rowB b.4)])]).length
                  (cutT 0 (inv ok_LB ea_LB [(0, false, [C.tr false (eL 1 rowB b.4)])]).length
                    (atL rowB (inv ok_LB ea_LB [(0, false, [C.tr false (eL 1 rowB b.4)])])))),
              C.tr false (T.int IntKind.i64 b.5), C.tr false (T.int IntKind.i64 b.6),
              C.tr false (T.int IntKind.i64 b.7)])]) ==
    f_sSameAns
      (inv ok_sSameAns ea_sSameAns
        [(0, true,
            [C.tr false (T.int IntKind.i64 a.1), C.tr false (T.int IntKind.i64 a.h.1),
              C.tr false (T.int IntKind.i64 a.h.2), C.tr false (T.int IntKind.i64 a.r.h.1),
              C.tr false (T.int IntKind.i64 a.r.h.2), C.tr false (T.int IntKind.i64 a.r.2),
              C.tr false (T.int IntKind.i64 a.r.3),
              C.tr false
                (T.arr 1 (inv ok_LB ea_LB [(0, false, [C.tr false (eL 1 rowB a.4)])]).length
                  (cutT 0 (inv ok_LB ea_LB [(0, false, [C.tr false (eL 1 rowB a.4)])]).length
                    (atL rowB (inv ok_LB ea_LB [(0, false, [C.tr false (eL 1 rowB a.4)])])))),
              C.tr false (T.int IntKind.i64 a.5), C.tr false (T.int IntKind.i64 a.6),
              C.tr false (T.int IntKind.i64 a.7)]),
          (0, true,
            [C.tr false (T.int IntKind.i64 b.1), C.tr false (T.int IntKind.i64 b.h.1),
              C.tr false (T.int IntKind.i64 b.h.2), C.tr false (T.int IntKind.i64 b.r.h.1),
              C.tr false (T.int IntKind.i64 b.r.h.2), C.tr false (T.int IntKind.i64 b.r.2),
              C.tr false (T.int IntKind.i64 b.r.3),
              C.tr false
                (T.arr 1 (inv ok_LB ea_LB [(0, false, [C.tr false (eL 1 rowB b.4)])]).length
                  (cutT 0 (inv ok_LB ea_LB [(0, false, [C.tr false (eL 1 rowB b.4)])]).length
                    (atL rowB (inv ok_LB ea_LB [(0, false, [C.tr false (eL 1 rowB b.4)])])))),
              C.tr false (T.int IntKind.i64 b.5), C.tr false (T.int IntKind.i64 b.6),
              C.tr false (T.int IntKind.i64 b.7)])]) then
  some ([(false, [.tr true (T.bool false)])], [(false, []), (false, [])])
 else
 gd (dom ok_LB ea_LB [(0, false, [C.tr false (eL 1 rowB a.4)])]) <|
 gd ((inv ok_LB ea_LB [(0, false, [C.tr false (eL 1 rowB a.4)])]).length.ble
    (inv ok_LB ea_LB [(0, false, [C.tr false (eL 1 rowB a.4)])]).length &&
  true) <|
 gd ((inv ok_LB ea_LB [(0, false, [C.tr false (eL 1 rowB a.4)])]).length.ble
    (inv ok_LB ea_LB [(0, false, [C.tr false (eL 1 rowB a.4)])]).length &&
  true) <|
 gd ((inv ok_LB ea_LB [(0, false, [C.tr false (eL 1 rowB a.4)])]).length.ble
    (inv ok_LB ea_LB [(0, false, [C.tr false (eL 1 rowB a.4)])]).length &&
  true) <|
 gd ((0 + (inv ok_LB ea_LB [(0, false, [C.tr false (eL 1 rowB a.4)])]).length).ble
  (inv ok_LB ea_LB [(0, false, [C.tr false (eL 1 rowB a.4)])]).length) <|
 gd ((0 + (inv ok_LB ea_LB [(0, false, [C.tr false (eL 1 rowB a.4)])]).length).ble
  (inv ok_LB ea_LB [(0, false, [C.tr false (eL 1 rowB a.4)])]).length) <|
 gd (dom ok_EqAn ea_EqAn
  [(0, true,
      [C.tr false (T.int IntKind.i64 a.1), C.tr false (T.int IntKind.i64 a.h.1),
        C.tr false (T.int IntKind.i64 a.h.2), C.tr false (T.int IntKind.i64 a.r.h.1),
        C.tr false (T.int IntKind.i64 a.r.h.2), C.tr false (T.int IntKind.i64 a.r.2),
        C.tr false (T.int IntKind.i64 a.r.3),
        C.tr false
          (T.arr 1 (inv ok_LB ea_LB [(0, false, [C.tr false (eL 1 rowB a.4)])]).length
            (cutT 0 (inv ok_LB ea_LB [(0, false, [C.tr false (eL 1 rowB a.4)])]).length
              (atL rowB (inv ok_LB ea_LB [(0, false, [C.tr false (eL 1 rowB a.4)])])))),
        C.tr false (T.int IntKind.i64 a.5), C.tr false (T.int IntKind.i64 a.6), C.tr false (T.int IntKind.i64 a.7)]),
    (0, true,
      [C.tr false (T.int IntKind.i64 a.1), C.tr false (T.int IntKind.i64 a.h.1),
        C.tr false (T.int IntKind.i64 a.h.2), C.tr false (T.int IntKind.i64 a.r.h.1),
        C.tr false (T.int IntKind.i64 a.r.h.2), C.tr false (T.int IntKind.i64 a.r.2),
        C.tr false (T.int IntKind.i64 a.r.3),
        C.tr false
          (T.arr 1 (inv ok_LB ea_LB [(0, false, [C.tr false (eL 1 rowB a.4)])]).length
            (cutT 0 (inv ok_LB ea_LB [(0, false, [C.tr false (eL 1 rowB a.4)])]).length
              (atL rowB (inv ok_LB ea_LB [(0, false, [C.tr false (eL 1 rowB a.4)])])))),
        C.tr false (T.int IntKind.i64 a.5), C.tr false (T.int IntKind.i64 a.6), C.tr false (T.int IntKind.i64 a.7)])]) <|
 bif !f_EqAn
    (inv ok_EqAn ea_EqAn
      [(0, true,
          [C.tr false (T.int IntKind.i64 a.1), C.tr false (T.int IntKind.i64 a.h.1),
            C.tr false (T.int IntKind.i64 a.h.2), C.tr false (T.int IntKind.i64 a.r.h.1),
            C.tr false (T.int IntKind.i64 a.r.h.2), C.tr false (T.int IntKind.i64 a.r.2),
            C.tr false (T.int IntKind.i64 a.r.3),
            C.tr false
              (T.arr 1 (inv ok_LB ea_LB [(0, false, [C.tr false (eL 1 rowB a.4)])]).length
                (cutT 0 (inv ok_LB ea_LB [(0, false, [C.tr false (eL 1 rowB a.4)])]).length
                  (atL rowB (inv ok_LB ea_LB [(0, false, [C.tr false (eL 1 rowB a.4)])])))),
            C.tr false (T.int IntKind.i64 a.5), C.tr false (T.int IntKind.i64 a.6),
            C.tr false (T.int IntKind.i64 a.7)]),
        (0, true,
          [C.tr false (T.int IntKind.i64 a.1), C.tr false (T.int IntKind.i64 a.h.1),
            C.tr false (T.int IntKind.i64 a.h.2), C.tr false (T.int IntKind.i64 a.r.h.1),
            C.tr false (T.int IntKind.i64 a.r.h.2), C.tr false (T.int IntKind.i64 a.r.2),
            C.tr false (T.int IntKind.i64 a.r.3),
            C.tr false
              (T.arr 1 (inv ok_LB ea_LB [(0, false, [C.tr false (eL 1 rowB a.4)])]).length
                (cutT 0 (inv ok_LB ea_LB [(0, false, [C.tr false (eL 1 rowB a.4)])]).length
                  (atL rowB (inv ok_LB ea_LB [(0, false, [C.tr false (eL 1 rowB a.4)])])))),
            C.tr false (T.int IntKind.i64 a.5), C.tr false (T.int IntKind.i64 a.6),
            C.tr false (T.int IntKind.i64 a.7)])]) then
  some ([(false, [.tr true (T.bool false)])], [(false, []), (false, [])])
 else
 gd (dom ok_LB ea_LB [(0, false, [C.tr false (eL 1 rowB b.4)])]) <|
 gd ((inv ok_LB ea_LB [(0, false, [C.tr false (eL 1 rowB b.4)])]).length.ble
    (inv ok_LB ea_LB [(0, false, [C.tr false (eL 1 rowB b.4)])]).length &&
  true) <|
 gd ((inv ok_LB ea_LB [(0, false, [C.tr false (eL 1 rowB b.4)])]).length.ble
    (inv ok_LB ea_LB [(0, false, [C.tr false (eL 1 rowB b.4)])]).length &&
  true) <|
 gd ((inv ok_LB ea_LB [(0, false, [C.tr false (eL 1 rowB b.4)])]).length.ble
    (inv ok_LB ea_LB [(0, false, [C.tr false (eL 1 rowB b.4)])]).length &&
  true) <|
 gd ((0 + (inv ok_LB ea_LB [(0, false, [C.tr false (eL 1 rowB b.4)])]).length).ble
  (inv ok_LB ea_LB [(0, false, [C.tr false (eL 1 rowB b.4)])]).length) <|
 gd ((0 + (inv ok_LB ea_LB [(0, false, [C.tr false (eL 1 rowB b.4)])]).length).ble
  (inv ok_LB ea_LB [(0, false, [C.tr false (eL 1 rowB b.4)])]).length) <|
 gd (dom ok_EqAn ea_EqAn
  [(0, true,
      [C.tr false (T.int IntKind.i64 b.1), C.tr false (T.int IntKind.i64 b.h.1),
        C.tr false (T.int IntKind.i64 b.h.2), C.tr false (T.int IntKind.i64 b.r.h.1),
        C.tr false (T.int IntKind.i64 b.r.h.2), C.tr false (T.int IntKind.i64 b.r.2),
        C.tr false (T.int IntKind.i64 b.r.3),
        C.tr false
          (T.arr 1 (inv ok_LB ea_LB [(0, false, [C.tr false (eL 1 rowB b.4)])]).length
            (cutT 0 (inv ok_LB ea_LB [(0, false, [C.tr false (eL 1 rowB b.4)])]).length
              (atL rowB (inv ok_LB ea_LB [(0, false, [C.tr false (eL 1 rowB b.4)])])))),
        C.tr false (T.int IntKind.i64 b.5), C.tr false (T.int IntKind.i64 b.6), C.tr false (T.int IntKind.i64 b.7)]),
    (0, true,
      [C.tr false (T.int IntKind.i64 b.1), C.tr false (T.int IntKind.i64 b.h.1),
        C.tr false (T.int IntKind.i64 b.h.2), C.tr false (T.int IntKind.i64 b.r.h.1),
        C.tr false (T.int IntKind.i64 b.r.h.2), C.tr false (T.int IntKind.i64 b.r.2),
        C.tr false (T.int IntKind.i64 b.r.3),
        C.tr false
          (T.arr 1 (inv ok_LB ea_LB [(0, false, [C.tr false (eL 1 rowB b.4)])]).length
            (cutT 0 (inv ok_LB ea_LB [(0, false, [C.tr false (eL 1 rowB b.4)])]).length
              (atL rowB (inv ok_LB ea_LB [(0, false, [C.tr false (eL 1 rowB b.4)])])))),
        C.tr false (T.int IntKind.i64 b.5), C.tr false (T.int IntKind.i64 b.6), C.tr false (T.int IntKind.i64 b.7)])]) <|
 bif !f_EqAn
    (inv ok_EqAn ea_EqAn
      [(0, true,
          [C.tr false (T.int IntKind.i64 b.1), C.tr false (T.int IntKind.i64 b.h.1),
            C.tr false (T.int IntKind.i64 b.h.2), C.tr false (T.int IntKind.i64 b.r.h.1),
            C.tr false (T.int IntKind.i64 b.r.h.2), C.tr false (T.int IntKind.i64 b.r.2),
            C.tr false (T.int IntKind.i64 b.r.3),
            C.tr false
              (T.arr 1 (inv ok_LB ea_LB [(0, false, [C.tr false (eL 1 rowB b.4)])]).length
                (cutT 0 (inv ok_LB ea_LB [(0, false, [C.tr false (eL 1 rowB b.4)])]).length
                  (atL rowB (inv ok_LB ea_LB [(0, false, [C.tr false (eL 1 rowB b.4)])])))),
            C.tr false (T.int IntKind.i64 b.5), C.tr false (T.int IntKind.i64 b.6),
            C.tr false (T.int IntKind.i64 b.7)]),
        (0, true,
          [C.tr false (T.int IntKind.i64 b.1), C.tr false (T.int IntKind.i64 b.h.1),
            C.tr false (T.int IntKind.i64 b.h.2), C.tr false (T.int IntKind.i64 b.r.h.1),
            C.tr false (T.int IntKind.i64 b.r.h.2), C.tr false (T.int IntKind.i64 b.r.2),
            C.tr false (T.int IntKind.i64 b.r.3),
            C.tr false
              (T.arr 1 (inv ok_LB ea_LB [(0, false, [C.tr false (eL 1 rowB b.4)])]).length
                (cutT 0 (inv ok_LB ea_LB [(0, false, [C.tr false (eL 1 rowB b.4)])]).length
                  (atL rowB (inv ok_LB ea_LB [(0, false, [C.tr false (eL 1 rowB b.4)])])))),
            C.tr false (T.int IntKind.i64 b.5), C.tr false (T.int IntKind.i64 b.6),
            C.tr false (T.int IntKind.i64 b.7)])]) then
  some ([(false, [.tr true (T.bool false)])], [(false, []), (false, [])])
 else
 some ([(false, [.tr true (T.bool true)])], [(false, []), (false, [])])) := by kernel_rfl
theorem body_xSameAns (a b : An) (ha : z_An a) (hb : z_An b) (n : Nat) : body prog (tabS [(i_szAn, e_szAn), (i_toAn, e_toAn), (i_sSameAns, e_sSameAns), (i_iSameAns, e_iSameAns), (i_EqAn, e_EqAn)]) kp_xSameAns n F_xSameAns [aR a.cs, aR b.cs] = some (erB 2 true) := by
  have hzm := zm
  have hlm := lm
  have hbm := bm
  have ha : a.b.length ≤ ZM := ha
  have hb : b.b.length ≤ ZM := hb
  rw [pre_xSameAns]
  simp (disch := omega) only [wrapI]
  by_cases e0 : 1048576 - (a.b.length : Int) < 0
  · simp only [decide_eq_true e0, cond_true]
    rfl
  simp only [decide_eq_false e0, cond_false]
  by_cases e1 : 1048576 - (a.b.length : Int) - (b.b.length : Int) < 0
  · simp only [decide_eq_true e1, cond_true]
    rfl
  simp only [decide_eq_false e1, cond_false]
  have ga : ok_LB a.b := by unfold ok_LB; omega
  have gb : ok_LB b.b := by unfold ok_LB; omega
  have qa : okq_LB a.b := by unfold okq_LB; omega
  have qb : okq_LB b.b := by unfold okq_LB; omega
  have sa : ok_sSameAns (a, b) := trivial
  have ia : ok_iSameAns (a, b) := trivial
  have ea : ok_EqAn (a, a) := qa
  have eb : ok_EqAn (b, b) := qb
  simp only [lt_d, ge0_d, Int.toNat_natCast, blt_d, ble_self, beq_self, decide_true, cond_true, Bool.and_self, Bool.and_true, Bool.true_and, gd_true, Nat.zero_add, List.getD_cons_zero, List.getD_cons_succ, isI_int, toI_int, isB_bool, toB_bool, eL_T, arr_ln, arr_fn, arr_wd, arr_is, arr_get, dm_toLB ga, iv_toLB ga, dm_toLB gb, iv_toLB gb, cut_all, dm_sSameAns sa, iv_sSameAns sa, d_sSameAns, dm_iSameAns ia, iv_iSameAns ia, d_iSameAns, dm_EqAn ea, iv_EqAn ea, dm_EqAn eb, iv_EqAn eb, d_EqAn, bool_self, bool_nself, Bool.not_true, cond_false]
  rfl
theorem sd_xSameAns (a : An) (b : An) (ha : z_An a) (hb : z_An b) : Sound prog i_xSameAns [aR a.cs, aR b.cs] (erB 2 true).1 (erB 2 true).2 :=
  body_sound (φ := (tabS [(i_szAn, e_szAn), (i_toAn, e_toAn), (i_sSameAns, e_sSameAns), (i_iSameAns, e_iSameAns), (i_EqAn, e_EqAn)])) (tabS_cons s_szAn (tabS_cons s_toAn (tabS_cons s_sSameAns (tabS_cons s_iSameAns (tabS_cons s_EqAn tabS_nil))))) mixed (kp := kp_xSameAns) (n := 0) func3 (c := bodyOf F_xSameAns) (by kernel_rfl) (body_xSameAns a b ha hb 0) (name_ok (by kernel_rfl))
end Go.Mach.F