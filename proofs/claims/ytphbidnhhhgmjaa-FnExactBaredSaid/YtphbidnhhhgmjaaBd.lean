/- FnExactBared. Conditions: none. -/
import Derived.Test.YtphbidnhhhgmjaaGa
import Derived.Test.YtphbidnhhhgmjaaCo
set_option linter.all false
set_option maxRecDepth 100000
set_option maxHeartbeats 40000000
namespace Go.Mach.F
open Go Go.Mach Go.Proofs.Try
--=set_option maxRecDepth 100000
def i_iBared : Nat := 21
noncomputable abbrev F_iBared : Func := f21
def kp_iBared : List (Nat × List Nat) := [(0, [4, 5, 8, 9, 16, 24, 32, 44, 48]), (1, [8, 9, 16, 24, 32, 44, 48])]
noncomputable def e_iBared : Ent := inl [] prog (tabS [(i_bCl, e_bCl)]) kp_iBared 0 F_iBared
theorem s_iBared : EntOk prog i_iBared e_iBared := inl_ok (tabS_cons s_bCl tabS_nil) mixed (c := bodyOf F_iBared) func21 (by kernel_rfl) (name_ok (by kernel_rfl))
def i_sBared : Nat := 20
noncomputable abbrev F_sBared : Func := f20
def kp_sBared : List (Nat × List Nat) := [(0, [4, 5, 8, 9, 12, 13, 16, 52]), (1, [4, 5, 8, 9, 12, 13, 16, 52]), (2, [4, 5, 8, 9, 12, 13, 16, 52]), (3, [4, 5, 8, 9, 12, 13, 16, 52]), (4, [4, 5, 8, 9, 12, 13, 16, 52]), (5, [4, 5, 8, 9, 12, 13, 16, 52]), (6, [4, 5, 8, 9, 12, 13, 16, 52])]
noncomputable def e_sBared : Ent := inl [] prog (tabS []) kp_sBared 0 F_sBared
theorem s_sBared : EntOk prog i_sBared e_sBared := inl_ok tabS_nil mixed (c := bodyOf F_sBared) func20 (by kernel_rfl) (name_ok (by kernel_rfl))
def i_markAn : Nat := 22
noncomputable abbrev F_markAn : Func := f22
def kp_markAn : List (Nat × List Nat) := [(0, [4, 8, 9, 2]), (1, [4, 2]), (2, [16, 2])]
noncomputable def e_markAn : Ent := inl [1, 0] prog (tabS [(i_mkLB, e_mkLB)]) kp_markAn 0 F_markAn
theorem s_markAn : EntOk prog i_markAn e_markAn := inl_ok (tabS_cons s_mkLB tabS_nil) mixed (c := bodyOf F_markAn) func22 (by kernel_rfl) (name_ok (by kernel_rfl))
def i_heldAn : Nat := 23
noncomputable abbrev F_heldAn : Func := f23
def kp_heldAn : List (Nat × List Nat) := [(0, [4, 8, 9]), (1, [4]), (2, [4, 40]), (3, [16]), (4, [16])]
noncomputable def e_heldAn : Ent := inl [] prog (tabS [(i_hdLB, e_hdLB)]) kp_heldAn 0 F_heldAn
theorem s_heldAn : EntOk prog i_heldAn e_heldAn := inl_ok (tabS_cons s_hdLB tabS_nil) mixed (c := bodyOf F_heldAn) func23 (by kernel_rfl) (name_ok (by kernel_rfl))
def i_xBared : Nat := 4
noncomputable abbrev F_xBared : Func := f4
def kp_xBared : List (Nat × List Nat) := [(0, [4, 5, 16, 17, 24, 25, 72, 88, 152, 156, 160, 164]), (1, [4, 5, 12, 16, 17, 24, 25, 72, 88, 152, 156, 160, 164]), (2, [4, 5, 12, 16, 17, 24, 25, 72, 88, 152, 156, 160, 164]), (3, [4, 5, 16, 17, 24, 25, 60, 72, 88, 152, 156, 160, 164]), (4, [8]), (5, [4, 5, 16, 17, 24, 25, 72, 88, 152, 156, 160, 164]), (6, [4, 5, 16, 17, 20, 21, 24, 25, 72, 80, 88, 152, 156, 160, 164]), (7, [4, 5, 16, 17, 20, 21, 24, 25, 72, 80, 88, 152, 156, 160, 164]), (8, [4, 5, 16, 17, 20, 21, 24, 25, 72, 80, 88, 104, 152, 156, 160, 164]), (9, [8]), (10, [4, 5, 16, 17, 20, 21, 24, 25, 72, 80, 88, 124, 152, 156, 160, 164]), (11, [8]), (12, [4, 5, 16, 17, 20, 21, 24, 25, 28, 72, 80, 88, 152, 156, 160, 164]), (13, [4, 5, 16, 17, 24, 25, 28, 72, 88, 152, 156, 160, 164]), (14, [4, 5, 16, 17, 24, 25, 72, 88, 168]), (15, [8]), (16, [4, 5, 16, 17, 24, 25, 32, 72, 88]), (17, [4, 5, 16, 17, 24, 25, 32, 72, 88]), (18, [4, 5, 16, 17, 24, 25, 32, 36, 72, 88]), (19, [4, 5, 16, 17, 24, 25, 32, 36, 72, 88]), (20, [4, 5, 16, 17, 24, 25, 32, 36, 72, 88, 200]), (21, [8]), (22, [4, 5, 16, 17, 24, 25, 32, 72, 88, 212]), (23, [8]), (24, [16, 17, 24, 25, 32, 40, 41, 72, 88, 224]), (25, [24, 25, 32, 88, 240]), (26, [8]), (27, [24, 25, 32, 36, 88]), (28, [32, 36]), (29, [32, 36, 260]), (30, [8]), (31, [272]), (32, [8]), (33, [8])]
def ts_xBared : List Nat := [0]
theorem pre_xBared (a : An) (n : Nat) : body prog (tabS [(i_szAn, e_szAn), (i_toAn, e_toAn), (i_iBared, e_iBared), (i_sBared, e_sBared), (i_EqAn, e_EqAn), (i_markAn, e_markAn), (i_heldAn, e_heldAn)]) kp_xBared n F_xBared [aR a.cs] = (
 bif decide (IntKind.i64.wrap (1048576 - (↑a.4.length : Int)) < 0) then
  some ([(false, [.tr true (T.bool true)])], [(false, [])])
 else
 bif decide (IntKind.i64.wrap (1048576 - (↑a.4.length : Int)) < 0) then
  some ([(false, [.tr true (T.bool true)])], [(false, [])])
 else
 bif decide (IntKind.i64.wrap (1048576 - (↑a.4.length : Int)) < 0) then
  some ([(false, [.tr true (T.bool true)])], [(false, [])])
 else
 gd (dom ok_LB ea_LB [(0, false, [C.tr false (eL 1 rowB a.4)])]) <|
 gd ((inv ok_LB ea_LB [(0, false, [C.tr false (eL 1 rowB a.4)])]).length.ble
    (inv ok_LB ea_LB [(0, false, [C.tr false (eL 1 rowB a.4)])]).length &&
  true) <|
 gd ((inv ok_LB ea_LB [(0, false, [C.tr false (eL 1 rowB a.4)])]).length.ble
    (inv ok_LB ea_LB [(0, false, [C.tr false (eL 1 rowB a.4)])]).length &&
  true) <|
 gd ((inv ok_LB ea_LB [(0, false, [C.tr false (eL 1 rowB a.4)])]).length.ble
    (inv ok_LB ea_LB [(0, false, [C.tr false (eL 1 rowB a.4)])]).length &&
  true) <|
 gd ((0 + (inv ok_LB ea_LB [(0, false, [C.tr false (eL 1 rowB a.4)])]).length).ble
  (inv ok_LB ea_LB [(0, false, [C.tr false (eL 1 rowB a.4)])]).length) <|
 gd (((0 + (inv ok_LB ea_LB [(0, false, [C.tr false (eL 1 rowB a.4)])]).length) * 1).ble 70368744177664 &&
  (0 + (inv ok_LB ea_LB [(0, false, [C.tr false (eL 1 rowB a.4)])]).length).ble 70368744177664) <|
 gd ((0 + (inv ok_LB ea_LB [(0, false, [C.tr false (eL 1 rowB a.4)])]).length).ble
    (0 + (inv ok_LB ea_LB [(0, false, [C.tr false (eL 1 rowB a.4)])]).length) &&
  true) <|
 gd ((0 + (inv ok_LB ea_LB [(0, false, [C.tr false (eL 1 rowB a.4)])]).length).ble
    (0 + (inv ok_LB ea_LB [(0, false, [C.tr false (eL 1 rowB a.4)])]).length) &&
  true) <|
 gd ((0 + (inv ok_LB ea_LB [(0, false, [C.tr false (eL 1 rowB a.4)])]).length).ble
    (0 + (inv ok_LB ea_LB [(0, false, [C.tr false (eL 1 rowB a.4)])]).length) &&
  true) <|
 gd ((0 + (inv ok_LB ea_LB [(0, false, [C.tr false (eL 1 rowB a.4)])]).length).ble
    (0 + (inv ok_LB ea_LB [(0, false, [C.tr false (eL 1 rowB a.4)])]).length) &&
  true) <|
 gd (dom ok_LB ea_LB [(0, false, [C.tr false (eL 1 rowB a.4)])]) <|
 gd ((inv ok_LB ea_LB [(0, false, [C.tr false (eL 1 rowB a.4)])]).length.ble
    (inv ok_LB ea_LB [(0, false, [C.tr false (eL 1 rowB a.4)])]).length &&
  true) <|
 gd ((inv ok_LB ea_LB [(0, false, [C.tr false (eL 1 rowB a.4)])]).length.ble
    (inv ok_LB ea_LB [(0, false, [C.tr false (eL 1 rowB a.4)])]).length &&
  true) <|
 gd ((inv ok_LB ea_LB [(0, false, [C.tr false (eL 1 rowB a.4)])]).length.ble
    (inv ok_LB ea_LB [(0, false, [C.tr false (eL 1 rowB a.4)])]).length &&
  true) <|
 gd ((inv ok_LB ea_LB [(0, false, [C.tr false (eL 1 rowB a.4)])]).length.ble
    (inv ok_LB ea_LB [(0, false, [C.tr false (eL 1 rowB a.4)])]).length &&
  true) <|
 gd ((0 + (inv ok_LB ea_LB [(0, false, [C.tr false (eL 1 rowB a.4)])]).length).ble
  (inv ok_LB ea_LB [(0, false, [C.tr false (eL 1 rowB a.4)])]).length) <|
 gd (dom ok_bCl ea_bCl
  [(0, false,
      [C.tr false
          (T.arr 1 (inv ok_LB ea_LB [(0, false, [C.tr false (eL 1 rowB a.4)])]).length
            (cutT 0 (inv ok_LB ea_LB [(0, false, [C.tr false (eL 1 rowB a.4)])]).length
              (atL rowB (inv ok_LB ea_LB [(0, false, [C.tr false (eL 1 rowB a.4)])]))))])]) <|
 gd ((f_bCl
          (inv ok_bCl ea_bCl
            [(0, false,
                [C.tr false
                    (T.arr 1 (inv ok_LB ea_LB [(0, false, [C.tr false (eL 1 rowB a.4)])]).length
                      (cutT 0 (inv ok_LB ea_LB [(0, false, [C.tr false (eL 1 rowB a.4)])]).length
                        (atL rowB (inv ok_LB ea_LB [(0, false, [C.tr false (eL 1 rowB a.4)])]))))])])).length.ble
    (f_bCl
        (inv ok_bCl ea_bCl
          [(0, false,
              [C.tr false
                  (T.arr 1 (inv ok_LB ea_LB [(0, false, [C.tr false (eL 1 rowB a.4)])]).length
                    (cutT 0 (inv ok_LB ea_LB [(0, false, [C.tr false (eL 1 rowB a.4)])]).length
                      (atL rowB (inv ok_LB ea_LB [(0, false, [C.tr false (eL 1 rowB a.4)])]))))])])).length &&
  true) <|
 gd ((f_bCl
          (inv ok_bCl ea_bCl
            [(0, false,
                [C.tr false
                    (T.arr 1 (inv ok_LB ea_LB [(0, false, [C.tr false (eL 1 rowB a.4)])]).length
                      (cutT 0 (inv ok_LB ea_LB [(0, false, [C.tr false (eL 1 rowB a.4)])]).length
                        (atL rowB (inv ok_LB ea_LB [(0, false, [C.tr false (eL 1 rowB a.4)])]))))])])).length.ble
    (f_bCl
        (inv ok_bCl ea_bCl
          [(0, false,
              [C.tr false
                  (T.arr 1 (inv ok_LB ea_LB [(0, false, [C.tr false (eL 1 rowB a.4)])]).length
                    (cutT 0 (inv ok_LB ea_LB [(0, false, [C.tr false (eL 1 rowB a.4)])]).length
                      (atL rowB (inv ok_LB ea_LB [(0, false, [C.tr false (eL 1 rowB a.4)])]))))])])).length &&
  true) <|
 gd ((f_bCl
          (inv ok_bCl ea_bCl
            [(0, false,
                [C.tr false
                    (T.arr 1 (inv ok_LB ea_LB [(0, false, [C.tr false (eL 1 rowB a.4)])]).length
                      (cutT 0 (inv ok_LB ea_LB [(0, false, [C.tr false (eL 1 rowB a.4)])]).length
                        (atL rowB (inv ok_LB ea_LB [(0, false, [C.tr false (eL 1 rowB a.4)])]))))])])).length.ble
    (f_bCl
        (inv ok_bCl ea_bCl
          [(0, false,
              [C.tr false
                  (T.arr 1 (inv ok_LB ea_LB [(0, false, [C.tr false (eL 1 rowB a.4)])]).length
                    (cutT 0 (inv ok_LB ea_LB [(0, false, [C.tr false (eL 1 rowB a.4)])]).length
                      (atL rowB (inv ok_LB ea_LB [(0, false, [C.tr false (eL 1 rowB a.4)])]))))])])).length &&
  true) <|
 gd ((f_bCl
          (inv ok_bCl ea_bCl
            [(0, false,
                [C.tr false
                    (T.arr 1 (inv ok_LB ea_LB [(0, false, [C.tr false (eL 1 rowB a.4)])]).length
                      (cutT 0 (inv ok_LB ea_LB [(0, false, [C.tr false (eL 1 rowB a.4)])]).length
                        (atL rowB (inv ok_LB ea_LB [(0, false, [C.tr false (eL 1 rowB a.4)])]))))])])).length.ble
    (f_bCl
        (inv ok_bCl ea_bCl
          [(0, false,
              [C.tr false
                  (T.arr 1 (inv ok_LB ea_LB [(0, false, [C.tr false (eL 1 rowB a.4)])]).length
                    (cutT 0 (inv ok_LB ea_LB [(0, false, [C.tr false (eL 1 rowB a.4)])]).length
                      (atL rowB (inv ok_LB ea_LB [(0, false, [C.tr false (eL 1 rowB a.4)])]))))])])).length &&
  true) <|
 gd ((0 +
      (f_bCl
          (inv ok_bCl ea_bCl
            [(0, false,
                [C.tr false
                    (T.arr 1 (inv ok_LB ea_LB [(0, false, [C.tr false (eL 1 rowB a.4)])]).length
                      (cutT 0 (inv ok_LB ea_LB [(0, false, [C.tr false (eL 1 rowB a.4)])]).length
                        (atL rowB (inv ok_LB ea_LB [(0, false, [C.tr false (eL 1 rowB a.4)])]))))])])).length).ble
  (f_bCl
      (inv ok_bCl ea_bCl
        [(0, false,
            [C.tr false
                (T.arr 1 (inv ok_LB ea_LB [(0, false, [C.tr false (eL 1 rowB a.4)])]).length
                  (cutT 0 (inv ok_LB ea_LB [(0, false, [C.tr false (eL 1 rowB a.4)])]).length
                    (atL rowB (inv ok_LB ea_LB [(0, false, [C.tr false (eL 1 rowB a.4)])]))))])])).length) <|
 gd ((0 + (0 + (inv ok_LB ea_LB [(0, false, [C.tr false (eL 1 rowB a.4)])]).length)).ble
  (0 + (inv ok_LB ea_LB [(0, false, [C.tr false (eL 1 rowB a.4)])]).length)) <|
 gd (dom ok_EqAn ea_EqAn
  [(0, true,
      [C.tr false (T.int IntKind.i64 a.1), C.tr false (T.int IntKind.i64 a.h.1),
        C.tr false (T.int IntKind.i64 a.h.2), C.tr false (T.int IntKind.i64 a.r.h.1),
        C.tr false (T.int IntKind.i64 a.r.h.2), C.tr false (T.int IntKind.i64 a.r.2),
        C.tr false (T.int IntKind.i64 a.r.3),
        C.tr false
          (T.arr 1
            (f_bCl
                (inv ok_bCl ea_bCl
                  [(0, false,
                      [C.tr false
                          (T.arr 1 (inv ok_LB ea_LB [(0, false, [C.tr false (eL 1 rowB a.4)])]).length
                            (cutT 0 (inv ok_LB ea_LB [(0, false, [C.tr false (eL 1 rowB a.4)])]).length
                              (atL rowB (inv ok_LB ea_LB [(0, false, [C.tr false (eL 1 rowB a.4)])]))))])])).length
            (cutT 0
              (f_bCl
                  (inv ok_bCl ea_bCl
                    [(0, false,
                        [C.tr false
                            (T.arr 1 (inv ok_LB ea_LB [(0, false, [C.tr false (eL 1 rowB a.4)])]).length
                              (cutT 0 (inv ok_LB ea_LB [(0, false, [C.tr false (eL 1 rowB a.4)])]).length
                                (atL rowB (inv ok_LB ea_LB [(0, false, [C.tr false (eL 1 rowB a.4)])]))))])])).length
              (atL rowB
                (f_bCl
                  (inv ok_bCl ea_bCl
                    [(0, false,
                        [C.tr false
                            (T.arr 1 (inv ok_LB ea_LB [(0, false, [C.tr false (eL 1 rowB a.4)])]).length
                              (cutT 0 (inv ok_LB ea_LB [(0, false, [C.tr false (eL 1 rowB a.4)])]).length
                                (atL rowB (inv ok_LB ea_LB [(0, false, [C.tr false (eL 1 rowB a.4)])]))))])]))))),
        C.tr false (T.int IntKind.i64 0), C.tr false (T.int IntKind.i64 0), C.tr false (T.int IntKind.i64 0)]),
    (0, true,
      [C.tr false (T.int IntKind.i64 a.1), C.tr false (T.int IntKind.i64 a.h.1),
        C.tr false (T.int IntKind.i64 a.h.2), C.tr false (T.int IntKind.i64 a.r.h.1),
        C.tr false (T.int IntKind.i64 a.r.h.2), C.tr false (T.int IntKind.i64 a.r.2),
        C.tr false (T.int IntKind.i64 a.r.3),
        C.tr false
          (T.arr 1 (0 + (inv ok_LB ea_LB [(0, false, [C.tr false (eL 1 rowB a.4)])]).length)
            (cutT 0 (0 + (inv ok_LB ea_LB [(0, false, [C.tr false (eL 1 rowB a.4)])]).length)
              (appF 0 (fun j k => T.hole)
                (plainF
                  (cutT 0 (inv ok_LB ea_LB [(0, false, [C.tr false (eL 1 rowB a.4)])]).length
                    (atL rowB (inv ok_LB ea_LB [(0, false, [C.tr false (eL 1 rowB a.4)])]))))))),
        C.tr false (T.int IntKind.i64 0), C.tr false (T.int IntKind.i64 0), C.tr false (T.int IntKind.i64 0)])]) <|
 bif !f_EqAn
    (inv ok_EqAn ea_EqAn
      [(0, true,
          [C.tr false (T.int IntKind.i64 a.1), C.tr false (T.int IntKind.i64 a.h.1),
            C.tr false (T.int IntKind.i64 a.h.2), C.tr false (T.int IntKind.i64 a.r.h.1),
            C.tr false (T.int IntKind.i64 a.r.h.2), C.tr false (T.int IntKind.i64 a.r.2),
            C.tr false (T.int IntKind.i64 a.r.3),
            C.tr false
              (T.arr 1
                (f_bCl
                    (inv ok_bCl ea_bCl
                      [(0, false,
                          [C.tr false
                              (T.arr 1 (inv ok_LB ea_LB [(0, false, [C.tr false (eL 1 rowB a.4)])]).length
                                (cutT 0 (inv ok_LB ea_LB [(0, false, [C.tr false (eL 1 rowB a.4)])]).length
                                  (atL rowB (inv ok_LB ea_LB [(0, false, [C.tr false (eL 1 rowB a.4)])]))))])])).length
                (cutT 0
                  (f_bCl
                      (inv ok_bCl ea_bCl
                        [(0, false,
                            [C.tr false
                                (T.arr 1 (inv ok_LB ea_LB [(0, false, [C.tr false (eL 1 rowB a.4)])]).length
                                  (cutT 0 (inv ok_LB ea_LB [(0, false, [C.tr false (eL 1 rowB a.4)])]).length
                                    (atL rowB
                                      (inv ok_LB ea_LB [(0, false, [C.tr false (eL 1 rowB a.4)])]))))])])).length
                  (atL rowB
                    (f_bCl
                      (inv ok_bCl ea_bCl
                        [(0, false,
                            [C.tr false
                                (T.arr 1 (inv ok_LB ea_LB [(0, false, [C.tr false (eL 1 rowB a.4)])]).length
                                  (cutT 0 (inv ok_LB ea_LB [(0, false, [C.tr false (eL 1 rowB a.4)])]).length
                                    (atL rowB (inv ok_LB ea_LB [(0, false, [C.tr false (eL 1 rowB a.4)])]))))])]))))),
            C.tr false (T.int IntKind.i64 0), C.tr false (T.int IntKind.i64 0), C.tr false (T.int IntKind.i64 0)]),
        (0, true,
          [C.tr false (T.int IntKind.i64 a.1), C.tr false (T.int IntKind.i64 a.h.1),
            C.tr false (T.int IntKind.i64 a.h.2), C.tr false (T.int IntKind.i64 a.r.h.1),
            C.tr false (T.int IntKind.i64 a.r.h.2), C.tr false (T.int IntKind.i64 a.r.2),
            C.tr false (T.int IntKind.i64 a.r.3),
            C.tr false
              (T.arr 1 (0 + (inv ok_LB ea_LB [(0, false, [C.tr false (eL 1 rowB a.4)])]).length)
                (cutT 0 (0 + (inv ok_LB ea_LB [(0, false, [C.tr false (eL 1 rowB a.4)])]).length)
                  (appF 0 (fun j k => T.hole)
                    (plainF
                      (cutT 0 (inv ok_LB ea_LB [(0, false, [C.tr false (eL 1 rowB a.4)])]).length
                        (atL rowB (inv ok_LB ea_LB [(0, false, [C.tr false (eL 1 rowB a.4)])]))))))),
            C.tr false (T.int IntKind.i64 0), C.tr false (T.int IntKind.i64 0), C.tr false (T.int IntKind.i64 0)])]) then
  some ([(false, [.tr true (T.bool false)])], [(false, [])])
 else
 gd (dom ok_LB ea_LB [(0, false, [C.tr false (eL 1 rowB a.4)])]) <|
 gd ((inv ok_LB ea_LB [(0, false, [C.tr false (eL 1 rowB a.4)])]).length.ble
    (inv ok_LB ea_LB [(0, false, [C.tr false (eL 1 rowB a.4)])]).length &&
  true) <|
 gd ((inv ok_LB ea_LB [(0, false, [C.tr false (eL 1 rowB a.4)])]).length.ble
    (inv ok_LB ea_LB [(0, false, [C.tr false (eL 1 rowB a.4)])]).length &&
  true) <|
 gd ((inv ok_LB ea_LB [(0, false, [C.tr false (eL 1 rowB a.4)])]).length.ble
    (inv ok_LB ea_LB [(0, false, [C.tr false (eL 1 rowB a.4)])]).length &&
  true) <|
 gd ((0 + (inv ok_LB ea_LB [(0, false, [C.tr false (eL 1 rowB a.4)])]).length).ble
  (inv ok_LB ea_LB [(0, false, [C.tr false (eL 1 rowB a.4)])]).length) <|
 gd ((0 + (inv ok_LB ea_LB [(0, false, [C.tr false (eL 1 rowB a.4)])]).length).ble
  (inv ok_LB ea_LB [(0, false, [C.tr false (eL 1 rowB a.4)])]).length) <|
 gd (dom ok_EqAn ea_EqAn
  [(0, true,
      [C.tr false (T.int IntKind.i64 a.1), C.tr false (T.int IntKind.i64 a.h.1),
        C.tr false (T.int IntKind.i64 a.h.2), C.tr false (T.int IntKind.i64 a.r.h.1),
        C.tr false (T.int IntKind.i64 a.r.h.2), C.tr false (T.int IntKind.i64 a.r.2),
        C.tr false (T.int IntKind.i64 a.r.3),
        C.tr false
          (T.arr 1 (inv ok_LB ea_LB [(0, false, [C.tr false (eL 1 rowB a.4)])]).length
            (cutT 0 (inv ok_LB ea_LB [(0, false, [C.tr false (eL 1 rowB a.4)])]).length
              (atL rowB (inv ok_LB ea_LB [(0, false, [C.tr false (eL 1 rowB a.4)])])))),
        C.tr false (T.int IntKind.i64 a.5), C.tr false (T.int IntKind.i64 a.6), C.tr false (T.int IntKind.i64 a.7)]),
    (0, true,
      [C.tr false (T.int IntKind.i64 a.1), C.tr false (T.int IntKind.i64 a.h.1),
        C.tr false (T.int IntKind.i64 a.h.2), C.tr false (T.int IntKind.i64 a.r.h.1),
        C.tr false (T.int IntKind.i64 a.r.h.2), C.tr false (T.int IntKind.i64 a.r.2),
        C.tr false (T.int IntKind.i64 a.r.3),
        C.tr false
          (T.arr 1 (inv ok_LB ea_LB [(0, false, [C.tr false (eL 1 rowB a.4)])]).length
            (cutT 0 (inv ok_LB ea_LB [(0, false, [C.tr false (eL 1 rowB a.4)])]).length
              (atL rowB (inv ok_LB ea_LB [(0, false, [C.tr false (eL 1 rowB a.4)])])))),
        C.tr false (T.int IntKind.i64 a.5), C.tr false (T.int IntKind.i64 a.6), C.tr false (T.int IntKind.i64 a.7)])]) <|
 bif !f_EqAn
    (inv ok_EqAn ea_EqAn
      [(0, true,
          [C.tr false (T.int IntKind.i64 a.1), C.tr false (T.int IntKind.i64 a.h.1),
            C.tr false (T.int IntKind.i64 a.h.2), C.tr false (T.int IntKind.i64 a.r.h.1),
            C.tr false (T.int IntKind.i64 a.r.h.2), C.tr false (T.int IntKind.i64 a.r.2),
            C.tr false (T.int IntKind.i64 a.r.3),
            C.tr false
              (T.arr 1 (inv ok_LB ea_LB [(0, false, [C.tr false (eL 1 rowB a.4)])]).length
                (cutT 0 (inv ok_LB ea_LB [(0, false, [C.tr false (eL 1 rowB a.4)])]).length
                  (atL rowB (inv ok_LB ea_LB [(0, false, [C.tr false (eL 1 rowB a.4)])])))),
            C.tr false (T.int IntKind.i64 a.5), C.tr false (T.int IntKind.i64 a.6),
            C.tr false (T.int IntKind.i64 a.7)]),
        (0, true,
          [C.tr false (T.int IntKind.i64 a.1), C.tr false (T.int IntKind.i64 a.h.1),
            C.tr false (T.int IntKind.i64 a.h.2), C.tr false (T.int IntKind.i64 a.r.h.1),
            C.tr false (T.int IntKind.i64 a.r.h.2), C.tr false (T.int IntKind.i64 a.r.2),
            C.tr false (T.int IntKind.i64 a.r.3),
            C.tr false
              (T.arr 1 (inv ok_LB ea_LB [(0, false, [C.tr false (eL 1 rowB a.4)])]).length
                (cutT 0 (inv ok_LB ea_LB [(0, false, [C.tr false (eL 1 rowB a.4)])]).length
                  (atL rowB (inv ok_LB ea_LB [(0, false, [C.tr false (eL 1 rowB a.4)])])))),
            C.tr false (T.int IntKind.i64 a.5), C.tr false (T.int IntKind.i64 a.6),
            C.tr false (T.int IntKind.i64 a.7)])]) then
  some ([(false, [.tr true (T.bool false)])], [(false, [])])
 else
 gd ((inv ok_LB ea_LB [(0, false, [C.tr false (eL 1 rowB a.4)])]).length.beq
    (inv ok_LB ea_LB [(0, false, [C.tr false (eL 1 rowB a.4)])]).length &&
  true) <|
 gd ((inv ok_LB ea_LB [(0, false, [C.tr false (eL 1 rowB a.4)])]).length.beq
    (inv ok_LB ea_LB [(0, false, [C.tr false (eL 1 rowB a.4)])]).length &&
  true) <|
 gd (dom okh_LB eam_LB
  [(1, false,
      [C.tr true
          (T.arr 1 (inv ok_LB ea_LB [(0, false, [C.tr false (eL 1 rowB a.4)])]).length
            (atL rowB (inv ok_LB ea_LB [(0, false, [C.tr false (eL 1 rowB a.4)])])))]),
    (0, false, [C.tr false (T.int IntKind.i64 1)])]) <|
 gd ((inv ok_LB ea_LB [(0, false, [C.tr false (eL 1 rowB a.4)])]).length.beq
    (f_mkLB
        (inv okh_LB eam_LB
          [(1, false,
              [C.tr true
                  (T.arr 1 (inv ok_LB ea_LB [(0, false, [C.tr false (eL 1 rowB a.4)])]).length
                    (atL rowB (inv ok_LB ea_LB [(0, false, [C.tr false (eL 1 rowB a.4)])])))]),
            (0, false, [C.tr false (T.int IntKind.i64 1)])])).length &&
  true) <|
 gd ((inv ok_LB ea_LB [(0, false, [C.tr false (eL 1 rowB a.4)])]).length.beq
    (f_mkLB
        (inv okh_LB eam_LB
          [(1, false,
              [C.tr true
                  (T.arr 1 (inv ok_LB ea_LB [(0, false, [C.tr false (eL 1 rowB a.4)])]).length
                    (atL rowB (inv ok_LB ea_LB [(0, false, [C.tr false (eL 1 rowB a.4)])])))]),
            (0, false, [C.tr false (T.int IntKind.i64 1)])])).length &&
  true) <|
 bif decide
  (f_ctLB
      (inv okh_LB eam_LB
        [(1, false,
            [C.tr true
                (T.arr 1 (inv ok_LB ea_LB [(0, false, [C.tr false (eL 1 rowB a.4)])]).length
                  (atL rowB (inv ok_LB ea_LB [(0, false, [C.tr false (eL 1 rowB a.4)])])))]),
          (0, false, [C.tr false (T.int IntKind.i64 1)])]) <
    0) then
  some ([(false, [.tr true (T.bool false)])], [(false, [])])
 else
 gd ((0 +
      (f_bCl
          (inv ok_bCl ea_bCl
            [(0, false,
                [C.tr false
                    (T.arr 1 (inv ok_LB ea_LB [(0, false, [C.tr false (eL 1 rowB a.4)])]).length
                      (cutT 0 (inv ok_LB ea_LB [(0, false, [C.tr false (eL 1 rowB a.4)])]).length
                        (atL rowB (inv ok_LB ea_LB [(0, false, [C.tr false (eL 1 rowB a.4)])]))))])])).length).ble
  (f_bCl
      (inv ok_bCl ea_bCl
        [(0, false,
            [C.tr false
                (T.arr 1 (inv ok_LB ea_LB [(0, false, [C.tr false (eL 1 rowB a.4)])]).length
                  (cutT 0 (inv ok_LB ea_LB [(0, false, [C.tr false (eL 1 rowB a.4)])]).length
                    (atL rowB (inv ok_LB ea_LB [(0, false, [C.tr false (eL 1 rowB a.4)])]))))])])).length) <|
 gd ((0 + (0 + (inv ok_LB ea_LB [(0, false, [C.tr false (eL 1 rowB a.4)])]).length)).ble
  (0 + (inv ok_LB ea_LB [(0, false, [C.tr false (eL 1 rowB a.4)])]).length)) <|
 gd (dom ok_EqAn ea_EqAn
  [(0, true,
      [C.tr false (T.int IntKind.i64 a.1), C.tr false (T.int IntKind.i64 a.h.1),
        C.tr false (T.int IntKind.i64 a.h.2), C.tr false (T.int IntKind.i64 a.r.h.1),
        C.tr false (T.int IntKind.i64 a.r.h.2), C.tr false (T.int IntKind.i64 a.r.2),
        C.tr false (T.int IntKind.i64 a.r.3),
        C.tr false
          (T.arr 1
            (f_bCl
                (inv ok_bCl ea_bCl
                  [(0, false,
                      [C.tr false
                          (T.arr 1 (inv ok_LB ea_LB [(0, false, [C.tr false (eL 1 rowB a.4)])]).length
                            (cutT 0 (inv ok_LB ea_LB [(0, false, [C.tr false (eL 1 rowB a.4)])]).length
                              (atL rowB (inv ok_LB ea_LB [(0, false, [C.tr false (eL 1 rowB a.4)])]))))])])).length
            (cutT 0
              (f_bCl
                  (inv ok_bCl ea_bCl
                    [(0, false,
                        [C.tr false
                            (T.arr 1 (inv ok_LB ea_LB [(0, false, [C.tr false (eL 1 rowB a.4)])]).length
                              (cutT 0 (inv ok_LB ea_LB [(0, false, [C.tr false (eL 1 rowB a.4)])]).length
                                (atL rowB (inv ok_LB ea_LB [(0, false, [C.tr false (eL 1 rowB a.4)])]))))])])).length
              (atL rowB
                (f_bCl
                  (inv ok_bCl ea_bCl
                    [(0, false,
                        [C.tr false
                            (T.arr 1 (inv ok_LB ea_LB [(0, false, [C.tr false (eL 1 rowB a.4)])]).length
                              (cutT 0 (inv ok_LB ea_LB [(0, false, [C.tr false (eL 1 rowB a.4)])]).length
                                (atL rowB (inv ok_LB ea_LB [(0, false, [C.tr false (eL 1 rowB a.4)])]))))])]))))),
        C.tr false (T.int IntKind.i64 0), C.tr false (T.int IntKind.i64 0), C.tr false (T.int IntKind.i64 0)]),
    (0, true,
      [C.tr false (T.int IntKind.i64 a.1), C.tr false (T.int IntKind.i64 a.h.1),
        C.tr false (T.int IntKind.i64 a.h.2), C.tr false (T.int IntKind.i64 a.r.h.1),
        C.tr false (T.int IntKind.i64 a.r.h.2), C.tr false (T.int IntKind.i64 a.r.2),
        C.tr false (T.int IntKind.i64 a.r.3),
        C.tr false
          (T.arr 1 (0 + (inv ok_LB ea_LB [(0, false, [C.tr false (eL 1 rowB a.4)])]).length)
            (cutT 0 (0 + (inv ok_LB ea_LB [(0, false, [C.tr false (eL 1 rowB a.4)])]).length)
              (appF 0 (fun j k => T.hole)
                (plainF
                  (cutT 0 (inv ok_LB ea_LB [(0, false, [C.tr false (eL 1 rowB a.4)])]).length
                    (atL rowB (inv ok_LB ea_LB [(0, false, [C.tr false (eL 1 rowB a.4)])]))))))),
        C.tr false (T.int IntKind.i64 0), C.tr false (T.int IntKind.i64 0), C.tr false (T.int IntKind.i64 0)])]) <|
 bif !f_EqAn
    (inv ok_EqAn ea_EqAn
      [(0, true,
          [C.tr false (T.int IntKind.i64 a.1), C.tr false (T.int IntKind.i64 a.h.1),
            C.tr false (T.int IntKind.i64 a.h.2), C.tr false (T.int IntKind.i64 a.r.h.1),
            C.tr false (T.int IntKind.i64 a.r.h.2), C.tr false (T.int IntKind.i64 a.r.2),
            C.tr false (T.int IntKind.i64 a.r.3),
            C.tr false
              (T.arr 1
                (f_bCl
                    (inv ok_bCl ea_bCl
                      [(0, false,
                          [C.tr false
                              (T.arr 1 (inv ok_LB ea_LB [(0, false, [C.tr false (eL 1 rowB a.4)])]).length
                                (cutT 0 (inv ok_LB ea_LB [(0, false, [C.tr false (eL 1 rowB a.4)])]).length
                                  (atL rowB (inv ok_LB ea_LB [(0, false, [C.tr false (eL 1 rowB a.4)])]))))])])).length
                (cutT 0
                  (f_bCl
                      (inv ok_bCl ea_bCl
                        [(0, false,
                            [C.tr false
                                (T.arr 1 (inv ok_LB ea_LB [(0, false, [C.tr false (eL 1 rowB a.4)])]).length
                                  (cutT 0 (inv ok_LB ea_LB [(0, false, [C.tr false (eL 1 rowB a.4)])]).length
                                    (atL rowB
                                      (inv ok_LB ea_LB [(0, false, [C.tr false (eL 1 rowB a.4)])]))))])])).length
                  (atL rowB
                    (f_bCl
                      (inv ok_bCl ea_bCl
                        [(0, false,
                            [C.tr false
                                (T.arr 1 (inv ok_LB ea_LB [(0, false, [C.tr false (eL 1 rowB a.4)])]).length
                                  (cutT 0 (inv ok_LB ea_LB [(0, false, [C.tr false (eL 1 rowB a.4)])]).length
                                    (atL rowB (inv ok_LB ea_LB [(0, false, [C.tr false (eL 1 rowB a.4)])]))))])]))))),
            C.tr false (T.int IntKind.i64 0), C.tr false (T.int IntKind.i64 0), C.tr false (T.int IntKind.i64 0)]),
        (0, true,
          [C.tr false (T.int IntKind.i64 a.1), C.tr false (T.int IntKind.i64 a.h.1),
            C.tr false (T.int IntKind.i64 a.h.2), C.tr false (T.int IntKind.i64 a.r.h.1),
            C.tr false (T.int IntKind.i64 a.r.h.2), C.tr false (T.int IntKind.i64 a.r.2),
            C.tr false (T.int IntKind.i64 a.r.3),
            C.tr false
              (T.arr 1 (0 + (inv ok_LB ea_LB [(0, false, [C.tr false (eL 1 rowB a.4)])]).length)
                (cutT 0 (0 + (inv ok_LB ea_LB [(0, false, [C.tr false (eL 1 rowB a.4)])]).length)
                  (appF 0 (fun j k => T.hole)
                    (plainF
                      (cutT 0 (inv ok_LB ea_LB [(0, false, [C.tr false (eL 1 rowB a.4)])]).length
                        (atL rowB (inv ok_LB ea_LB [(0, false, [C.tr false (eL 1 rowB a.4)])]))))))),
            C.tr false (T.int IntKind.i64 0), C.tr false (T.int IntKind.i64 0), C.tr false (T.int IntKind.i64 0)])]) then
  some ([(false, [.tr true (T.bool false)])], [(false, [])])
 else
 gd ((f_bCl
          (inv ok_bCl ea_bCl
            [(0, false,
                [C.tr false
                    (T.arr 1 (inv ok_LB ea_LB [(0, false, [C.tr false (eL 1 rowB a.4)])]).length
                      (cutT 0 (inv ok_LB ea_LB [(0, false, [C.tr false (eL 1 rowB a.4)])]).length
                        (atL rowB (inv ok_LB ea_LB [(0, false, [C.tr false (eL 1 rowB a.4)])]))))])])).length.beq
    (f_bCl
        (inv ok_bCl ea_bCl
          [(0, false,
              [C.tr false
                  (T.arr 1 (inv ok_LB ea_LB [(0, false, [C.tr false (eL 1 rowB a.4)])]).length
                    (cutT 0 (inv ok_LB ea_LB [(0, false, [C.tr false (eL 1 rowB a.4)])]).length
                      (atL rowB (inv ok_LB ea_LB [(0, false, [C.tr false (eL 1 rowB a.4)])]))))])])).length &&
  true) <|
 gd ((f_bCl
          (inv ok_bCl ea_bCl
            [(0, false,
                [C.tr false
                    (T.arr 1 (inv ok_LB ea_LB [(0, false, [C.tr false (eL 1 rowB a.4)])]).length
                      (cutT 0 (inv ok_LB ea_LB [(0, false, [C.tr false (eL 1 rowB a.4)])]).length
                        (atL rowB (inv ok_LB ea_LB [(0, false, [C.tr false (eL 1 rowB a.4)])]))))])])).length.beq
    (f_bCl
        (inv ok_bCl ea_bCl
          [(0, false,
              [C.tr false
                  (T.arr 1 (inv ok_LB ea_LB [(0, false, [C.tr false (eL 1 rowB a.4)])]).length
                    (cutT 0 (inv ok_LB ea_LB [(0, false, [C.tr false (eL 1 rowB a.4)])]).length
                      (atL rowB (inv ok_LB ea_LB [(0, false, [C.tr false (eL 1 rowB a.4)])]))))])])).length &&
  true) <|
 gd (dom okh_LB eam_LB
  [(1, false,
      [C.tr true
          (T.arr 1
            (f_bCl
                (inv ok_bCl ea_bCl
                  [(0, false,
                      [C.tr false
                          (T.arr 1 (inv ok_LB ea_LB [(0, false, [C.tr false (eL 1 rowB a.4)])]).length
                            (cutT 0 (inv ok_LB ea_LB [(0, false, [C.tr false (eL 1 rowB a.4)])]).length
                              (atL rowB (inv ok_LB ea_LB [(0, false, [C.tr false (eL 1 rowB a.4)])]))))])])).length
            (atL rowB
              (f_bCl
                (inv ok_bCl ea_bCl
                  [(0, false,
                      [C.tr false
                          (T.arr 1 (inv ok_LB ea_LB [(0, false, [C.tr false (eL 1 rowB a.4)])]).length
                            (cutT 0 (inv ok_LB ea_LB [(0, false, [C.tr false (eL 1 rowB a.4)])]).length
                              (atL rowB (inv ok_LB ea_LB [(0, false, [C.tr false (eL 1 rowB a.4)])]))))])]))))]),
    (0, false, [C.tr false (T.int IntKind.i64 1)])]) <|
 gd ((f_bCl
          (inv ok_bCl ea_bCl
            [(0, false,
                [C.tr false
                    (T.arr 1 (inv ok_LB ea_LB [(0, false, [C.tr false (eL 1 rowB a.4)])]).length
                      (cutT 0 (inv ok_LB ea_LB [(0, false, [C.tr false (eL 1 rowB a.4)])]).length
                        (atL rowB (inv ok_LB ea_LB [(0, false, [C.tr false (eL 1 rowB a.4)])]))))])])).length.beq
    (f_mkLB
        (inv okh_LB eam_LB
          [(1, false,
              [C.tr true
                  (T.arr 1
                    (f_bCl
                        (inv ok_bCl ea_bCl
                          [(0, false,
                              [C.tr false
                                  (T.arr 1 (inv ok_LB ea_LB [(0, false, [C.tr false (eL 1 rowB a.4)])]).length
                                    (cutT 0 (inv ok_LB ea_LB [(0, false, [C.tr false (eL 1 rowB a.4)])]).length
                                      (atL rowB
                                        (inv ok_LB ea_LB [(0, false, [C.tr false (eL 1 rowB a.4)])]))))])])).length
                    (atL rowB
                      (f_bCl
                        (inv ok_bCl ea_bCl
                          [(0, false,
                              [C.tr false
                                  (T.arr 1 (inv ok_LB ea_LB [(0, false, [C.tr false (eL 1 rowB a.4)])]).length
                                    (cutT 0 (inv ok_LB ea_LB [(0, false, [C.tr false (eL 1 rowB a.4)])]).length
                                      (atL rowB
                                        (inv ok_LB ea_LB [(0, false, [C.tr false (eL 1 rowB a.4)])]))))])]))))]),
            (0, false, [C.tr false (T.int IntKind.i64 1)])])).length &&
  true) <|
 gd ((f_bCl
          (inv ok_bCl ea_bCl
            [(0, false,
                [C.tr false
                    (T.arr 1 (inv ok_LB ea_LB [(0, false, [C.tr false (eL 1 rowB a.4)])]).length
                      (cutT 0 (inv ok_LB ea_LB [(0, false, [C.tr false (eL 1 rowB a.4)])]).length
                        (atL rowB (inv ok_LB ea_LB [(0, false, [C.tr false (eL 1 rowB a.4)])]))))])])).length.beq
    (f_mkLB
        (inv okh_LB eam_LB
          [(1, false,
              [C.tr true
                  (T.arr 1
                    (f_bCl
                        (inv ok_bCl ea_bCl
                          [(0, false,
                              [C.tr false
                                  (T.arr 1 (inv ok_LB ea_LB [(0, false, [C.tr false (eL 1 rowB a.4)])]).length
                                    (cutT 0 (inv ok_LB ea_LB [(0, false, [C.tr false (eL 1 rowB a.4)])]).length
                                      (atL rowB
                                        (inv ok_LB ea_LB [(0, false, [C.tr false (eL 1 rowB a.4)])]))))])])).length
                    (atL rowB
                      (f_bCl
                        (inv ok_bCl ea_bCl
                          [(0, false,
                              [C.tr false
                                  (T.arr 1 (inv ok_LB ea_LB [(0, false, [C.tr false (eL 1 rowB a.4)])]).length
                                    (cutT 0 (inv ok_LB ea_LB [(0, false, [C.tr false (eL 1 rowB a.4)])]).length
                                      (atL rowB
                                        (inv ok_LB ea_LB [(0, false, [C.tr false (eL 1 rowB a.4)])]))))])]))))]),
            (0, false, [C.tr false (T.int IntKind.i64 1)])])).length &&
  true) <|
 gd ((0 +
      (f_mkLB
          (inv okh_LB eam_LB
            [(1, false,
                [C.tr true
                    (T.arr 1
                      (f_bCl
                          (inv ok_bCl ea_bCl
                            [(0, false,
                                [C.tr false
                                    (T.arr 1 (inv ok_LB ea_LB [(0, false, [C.tr false (eL 1 rowB a.4)])]).length
                                      (cutT 0 (inv ok_LB ea_LB [(0, false, [C.tr false (eL 1 rowB a.4)])]).length
                                        (atL rowB
                                          (inv ok_LB ea_LB [(0, false, [C.tr false (eL 1 rowB a.4)])]))))])])).length
                      (atL rowB
                        (f_bCl
                          (inv ok_bCl ea_bCl
                            [(0, false,
                                [C.tr false
                                    (T.arr 1 (inv ok_LB ea_LB [(0, false, [C.tr false (eL 1 rowB a.4)])]).length
                                      (cutT 0 (inv ok_LB ea_LB [(0, false, [C.tr false (eL 1 rowB a.4)])]).length
                                        (atL rowB
                                          (inv ok_LB ea_LB [(0, false, [C.tr false (eL 1 rowB a.4)])]))))])]))))]),
              (0, false, [C.tr false (T.int IntKind.i64 1)])])).length).ble
  (f_mkLB
      (inv okh_LB eam_LB
        [(1, false,
            [C.tr true
                (T.arr 1
                  (f_bCl
                      (inv ok_bCl ea_bCl
                        [(0, false,
                            [C.tr false
                                (T.arr 1 (inv ok_LB ea_LB [(0, false, [C.tr false (eL 1 rowB a.4)])]).length
                                  (cutT 0 (inv ok_LB ea_LB [(0, false, [C.tr false (eL 1 rowB a.4)])]).length
                                    (atL rowB
                                      (inv ok_LB ea_LB [(0, false, [C.tr false (eL 1 rowB a.4)])]))))])])).length
                  (atL rowB
                    (f_bCl
                      (inv ok_bCl ea_bCl
                        [(0, false,
                            [C.tr false
                                (T.arr 1 (inv ok_LB ea_LB [(0, false, [C.tr false (eL 1 rowB a.4)])]).length
                                  (cutT 0 (inv ok_LB ea_LB [(0, false, [C.tr false (eL 1 rowB a.4)])]).length
                                    (atL rowB (inv ok_LB ea_LB [(0, false, [C.tr false (eL 1 rowB a.4)])]))))])]))))]),
          (0, false, [C.tr false (T.int IntKind.i64 1)])])).length) <|
 gd (dom okh_LB eah_LB
  [(0, false,
      [C.tr false
          (T.arr 1
            (f_mkLB
                (inv okh_LB eam_LB
                  [(1, false,
                      [C.tr true
                          (T.arr 1
                            (f_bCl
                                (inv ok_bCl ea_bCl
                                  [(0, false,
                                      [C.tr false
                                          (T.arr 1 (inv ok_LB ea_LB [(0, false, [C.tr false (eL 1 rowB a.4)])]).length
                                            (cutT 0 (inv ok_LB ea_LB [(0, false, [C.tr false (eL 1 rowB a.4)])]).length
                                              (atL rowB
                                                (inv ok_LB ea_LB
                                                  [(0, false, [C.tr false (eL 1 rowB a.4)])]))))])])).length
                            (atL rowB
                              (f_bCl
                                (inv ok_bCl ea_bCl
                                  [(0, false,
                                      [C.tr false
                                          (T.arr 1 (inv ok_LB ea_LB [(0, false, [C.tr false (eL 1 rowB a.4)])]).length
                                            (cutT 0 (inv ok_LB ea_LB [(0, false, [C.tr false (eL 1 rowB a.4)])]).length
                                              (atL rowB
                                                (inv ok_LB ea_LB
                                                  [(0, false, [C.tr false (eL 1 rowB a.4)])]))))])]))))]),
                    (0, false, [C.tr false (T.int IntKind.i64 1)])])).length
            (cutT 0
              (f_mkLB
                  (inv okh_LB eam_LB
                    [(1, false,
                        [C.tr true
                            (T.arr 1
                              (f_bCl
                                  (inv ok_bCl ea_bCl
                                    [(0, false,
                                        [C.tr false
                                            (T.arr 1
                                              (inv ok_LB ea_LB [(0, false, [C.tr false (eL 1 rowB a.4)])]).length
                                              (cutT 0
                                                (inv ok_LB ea_LB [(0, false, [C.tr false (eL 1 rowB a.4)])]).length
                                                (atL rowB
                                                  (inv ok_LB ea_LB
                                                    [(0, false, [C.tr false (eL 1 rowB a.4)])]))))])])).length
                              (atL rowB
                                (f_bCl
                                  (inv ok_bCl ea_bCl
                                    [(0, false,
                                        [C.tr false
                                            (T.arr 1
                                              (inv ok_LB ea_LB [(0, false, [C.tr false (eL 1 rowB a.4)])]).length
                                              (cutT 0
                                                (inv ok_LB ea_LB [(0, false, [C.tr false (eL 1 rowB a.4)])]).length
                                                (atL rowB
                                                  (inv ok_LB ea_LB
                                                    [(0, false, [C.tr false (eL 1 rowB a.4)])]))))])]))))]),
                      (0, false, [C.tr false (T.int IntKind.i64 1)])])).length
              (atL rowB
                (f_mkLB
                  (inv okh_LB eam_LB
                    [(1, false,
                        [C.tr true
                            (T.arr 1
                              (f_bCl
                                  (inv ok_bCl ea_bCl
                                    [(0, false,
                                        [C.tr false
                                            (T.arr 1
                                              (inv ok_LB ea_LB [(0, false, [C.tr false (eL 1 rowB a.4)])]).length
                                              (cutT 0
                                                (inv ok_LB ea_LB [(0, false, [C.tr false (eL 1 rowB a.4)])]).length
                                                (atL rowB
                                                  (inv ok_LB ea_LB
                                                    [(0, false, [C.tr false (eL 1 rowB a.4)])]))))])])).length
                              (atL rowB
                                (f_bCl
                                  (inv ok_bCl ea_bCl
                                    [(0, false,
                                        [C.tr false
                                            (T.arr 1
                                              (inv ok_LB ea_LB [(0, false, [C.tr false (eL 1 rowB a.4)])]).length
                                              (cutT 0
                                                (inv ok_LB ea_LB [(0, false, [C.tr false (eL 1 rowB a.4)])]).length
                                                (atL rowB
                                                  (inv ok_LB ea_LB
                                                    [(0, false, [C.tr false (eL 1 rowB a.4)])]))))])]))))]),
                      (0, false, [C.tr false (T.int IntKind.i64 1)])])))))]),
    (0, false, [C.tr false (T.int IntKind.i64 1)])]) <|
 bif decide
  (f_hdLB
      (inv okh_LB eah_LB
        [(0, false,
            [C.tr false
                (T.arr 1
                  (f_mkLB
                      (inv okh_LB eam_LB
                        [(1, false,
                            [C.tr true
                                (T.arr 1
                                  (f_bCl
                                      (inv ok_bCl ea_bCl
                                        [(0, false,
                                            [C.tr false
                                                (T.arr 1
                                                  (inv ok_LB ea_LB [(0, false, [C.tr false (eL 1 rowB a.4)])]).length
                                                  (cutT 0
                                                    (inv ok_LB ea_LB [(0, false, [C.tr false (eL 1 rowB a.4)])]).length
                                                    (atL rowB
                                                      (inv ok_LB ea_LB
                                                        [(0, false, [C.tr false (eL 1 rowB a.4)])]))))])])).length
                                  (atL rowB
                                    (f_bCl
                                      (inv ok_bCl ea_bCl
                                        [(0, false,
                                            [C.tr false
                                                (T.arr 1
                                                  (inv ok_LB ea_LB [(0, false, [C.tr false (eL 1 rowB a.4)])]).length
                                                  (cutT 0
                                                    (inv ok_LB ea_LB [(0, false, [C.tr false (eL 1 rowB a.4)])]).length
                                                    (atL rowB
                                                      (inv ok_LB ea_LB
                                                        [(0, false, [C.tr false (eL 1 rowB a.4)])]))))])]))))]),
                          (0, false, [C.tr false (T.int IntKind.i64 1)])])).length
                  (cutT 0
                    (f_mkLB
                        (inv okh_LB eam_LB
                          [(1, false,
                              [C.tr true
                                  (T.arr 1
                                    (f_bCl
                                        (inv ok_bCl ea_bCl
                                          [(0, false,
                                              [C.tr false
                                                  (T.arr 1
                                                    (inv ok_LB ea_LB [(0, false, [C.tr false (eL 1 rowB a.4)])]).length
                                                    (cutT 0
                                                      (inv ok_LB ea_LB
                                                          [(0, false, [C.tr false (eL 1 rowB a.4)])]).length
                                                      (atL rowB
                                                        (inv ok_LB ea_LB
                                                          [(0, false, [C.tr false (eL 1 rowB a.4)])]))))])])).length
                                    (atL rowB
                                      (f_bCl
                                        (inv ok_bCl ea_bCl
                                          [(0, false,
                                              [C.tr false
                                                  (T.arr 1
                                                    (inv ok_LB ea_LB [(0, false, [C.tr false (eL 1 rowB a.4)])]).length
                                                    (cutT 0
                                                      (inv ok_LB ea_LB
                                                          [(0, false, [C.tr false (eL 1 rowB a.4)])]).length
                                                      (atL rowB
                                                        (inv ok_LB ea_LB
                                                          [(0, false, [C.tr false (eL 1 rowB a.4)])]))))])]))))]),
                            (0, false, [C.tr false (T.int IntKind.i64 1)])])).length
                    (atL rowB
                      (f_mkLB
                        (inv okh_LB eam_LB
                          [(1, false,
                              [C.tr true
                                  (T.arr 1
                                    (f_bCl
                                        (inv ok_bCl ea_bCl
                                          [(0, false,
                                              [C.tr false
                                                  (T.arr 1
                                                    (inv ok_LB ea_LB [(0, false, [C.tr false (eL 1 rowB a.4)])]).length
                                                    (cutT 0
                                                      (inv ok_LB ea_LB
                                                          [(0, false, [C.tr false (eL 1 rowB a.4)])]).length
                                                      (atL rowB
                                                        (inv ok_LB ea_LB
                                                          [(0, false, [C.tr false (eL 1 rowB a.4)])]))))])])).length
                                    (atL rowB
                                      (f_bCl
                                        (inv ok_bCl ea_bCl
                                          [(0, false,
                                              [C.tr false
                                                  (T.arr 1
                                                    (inv ok_LB ea_LB [(0, false, [C.tr false (eL 1 rowB a.4)])]).length
                                                    (cutT 0
                                                      (inv ok_LB ea_LB
                                                          [(0, false, [C.tr false (eL 1 rowB a.4)])]).length
                                                      (atL rowB
                                                        (inv ok_LB ea_LB
                                                          [(0, false, [C.tr false (eL 1 rowB a.4)])]))))])]))))]),
                            (0, false, [C.tr false (T.int IntKind.i64 1)])])))))]),
          (0, false, [C.tr false (T.int IntKind.i64 1)])]) <
    0) then
  some ([(false, [.tr true (T.bool false)])], [(false, [])])
 else
 bif decide
  (f_hdLB
      (inv okh_LB eah_LB
        [(0, false,
            [C.tr false
                (T.arr 1
                  (f_mkLB
                      (inv okh_LB eam_LB
                        [(1, false,
                            [C.tr true
                                (T.arr 1
                                  (f_bCl
                                      (inv ok_bCl ea_bCl
                                        [(0, false,
                                            [C.tr false
                                                (T.arr 1
                                                  (inv ok_LB ea_LB [(0, false, [C.tr false (eL 1 rowB a.4)])]).length
                                                  (cutT 0
                                                    (inv ok_LB ea_LB [(0, false, [C.tr false (eL 1 rowB a.4)])]).length
                                                    (atL rowB
                                                      (inv ok_LB ea_LB
                                                        [(0, false, [C.tr false (eL 1 rowB a.4)])]))))])])).length
                                  (atL rowB
                                    (f_bCl
                                      (inv ok_bCl ea_bCl
                                        [(0, false,
                                            [C.tr false
                                                (T.arr 1
                                                  (inv ok_LB ea_LB [(0, false, [C.tr false (eL 1 rowB a.4)])]).length
                                                  (cutT 0
                                                    (inv ok_LB ea_LB [(0, false, [C.tr false (eL 1 rowB a.4)])]).length
                                                    (atL rowB
                                                      (inv ok_LB ea_LB
                                                        [(0, false, [C.tr false (eL 1 rowB a.4)])]))))])]))))]),
                          (0, false, [C.tr false (T.int IntKind.i64 1)])])).length
                  (cutT 0
                    (f_mkLB
                        (inv okh_LB eam_LB
                          [(1, false,
                              [C.tr true
                                  (T.arr 1
                                    (f_bCl
                                        (inv ok_bCl ea_bCl
                                          [(0, false,
                                              [C.tr false
                                                  (T.arr 1
                                                    (inv ok_LB ea_LB [(0, false, [C.tr false (eL 1 rowB a.4)])]).length
                                                    (cutT 0
                                                      (inv ok_LB ea_LB
                                                          [(0, false, [C.tr false (eL 1 rowB a.4)])]).length
                                                      (atL rowB
                                                        (inv ok_LB ea_LB
                                                          [(0, false, [C.tr false (eL 1 rowB a.4)])]))))])])).length
                                    (atL rowB
                                      (f_bCl
                                        (inv ok_bCl ea_bCl
                                          [(0, false,
                                              [C.tr false
                                                  (T.arr 1
                                                    (inv ok_LB ea_LB [(0, false, [C.tr false (eL 1 rowB a.4)])]).length
                                                    (cutT 0
                                                      (inv ok_LB ea_LB
                                                          [(0, false, [C.tr false (eL 1 rowB a.4)])]).length
                                                      (atL rowB
                                                        (inv ok_LB ea_LB
                                                          [(0, false, [C.tr false (eL 1 rowB a.4)])]))))])]))))]),
                            (0, false, [C.tr false (T.int IntKind.i64 1)])])).length
                    (atL rowB
                      (f_mkLB
                        (inv okh_LB eam_LB
                          [(1, false,
                              [C.tr true
                                  (T.arr 1
                                    (f_bCl
                                        (inv ok_bCl ea_bCl
                                          [(0, false,
                                              [C.tr false
                                                  (T.arr 1
                                                    (inv ok_LB ea_LB [(0, false, [C.tr false (eL 1 rowB a.4)])]).length
                                                    (cutT 0
                                                      (inv ok_LB ea_LB
                                                          [(0, false, [C.tr false (eL 1 rowB a.4)])]).length
                                                      (atL rowB
                                                        (inv ok_LB ea_LB
                                                          [(0, false, [C.tr false (eL 1 rowB a.4)])]))))])])).length
                                    (atL rowB
                                      (f_bCl
                                        (inv ok_bCl ea_bCl
                                          [(0, false,
                                              [C.tr false
                                                  (T.arr 1
                                                    (inv ok_LB ea_LB [(0, false, [C.tr false (eL 1 rowB a.4)])]).length
                                                    (cutT 0
                                                      (inv ok_LB ea_LB
                                                          [(0, false, [C.tr false (eL 1 rowB a.4)])]).length
                                                      (atL rowB
                                                        (inv ok_LB ea_LB
                                                          [(0, false, [C.tr false (eL 1 rowB a.4)])]))))])]))))]),
                            (0, false, [C.tr false (T.int IntKind.i64 1)])])))))]),
          (0, false, [C.tr false (T.int IntKind.i64 1)])]) <
    0) then
  some ([(false, [.tr true (T.bool false)])], [(false, [])])
 else
 bif f_hdLB
    (inv okh_LB eah_LB
      [(0, false,
          [C.tr false
              (T.arr 1
                (f_mkLB
                    (inv okh_LB eam_LB
                      [(1, false,
                          [C.tr true
                              (T.arr 1
                                (f_bCl
                                    (inv ok_bCl ea_bCl
                                      [(0, false,
                                          [C.tr false
                                              (T.arr 1
                                                (inv ok_LB ea_LB [(0, false, [C.tr false (eL 1 rowB a.4)])]).length
                                                (cutT 0
                                                  (inv ok_LB ea_LB [(0, false, [C.tr false (eL 1 rowB a.4)])]).length
                                                  (atL rowB
                                                    (inv ok_LB ea_LB
                                                      [(0, false, [C.tr false (eL 1 rowB a.4)])]))))])])).length
                                (atL rowB
                                  (f_bCl
                                    (inv ok_bCl ea_bCl
                                      [(0, false,
                                          [C.tr false
                                              (T.arr 1
                                                (inv ok_LB ea_LB [(0, false, [C.tr false (eL 1 rowB a.4)])]).length
                                                (cutT 0
                                                  (inv ok_LB ea_LB [(0, false, [C.tr false (eL 1 rowB a.4)])]).length
                                                  (atL rowB
                                                    (inv ok_LB ea_LB
                                                      [(0, false, [C.tr false (eL 1 rowB a.4)])]))))])]))))]),
                        (0, false, [C.tr false (T.int IntKind.i64 1)])])).length
                (cutT 0
                  (f_mkLB
                      (inv okh_LB eam_LB
                        [(1, false,
                            [C.tr true
                                (T.arr 1
                                  (f_bCl
                                      (inv ok_bCl ea_bCl
                                        [(0, false,
                                            [C.tr false
                                                (T.arr 1
                                                  (inv ok_LB ea_LB [(0, false, [C.tr false (eL 1 rowB a.4)])]).length
                                                  (cutT 0
                                                    (inv ok_LB ea_LB [(0, false, [C.tr false (eL 1 rowB a.4)])]).length
                                                    (atL rowB
                                                      (inv ok_LB ea_LB
                                                        [(0, false, [C.tr false (eL 1 rowB a.4)])]))))])])).length
                                  (atL rowB
                                    (f_bCl
                                      (inv ok_bCl ea_bCl
                                        [(0, false,
                                            [C.tr false
                                                (T.arr 1
                                                  (inv ok_LB ea_LB [(0, false, [C.tr false (eL 1 rowB a.4)])]).length
                                                  (cutT 0
                                                    (inv ok_LB ea_LB [(0, false, [C.tr false (eL 1 rowB a.4)])]).length
                                                    (atL rowB
                                                      (inv ok_LB ea_LB
                                                        [(0, false, [C.tr false (eL 1 rowB a.4)])]))))])]))))]),
                          (0, false, [C.tr false (T.int IntKind.i64 1)])])).length
                  (atL rowB
                    (f_mkLB
                      (inv okh_LB eam_LB
                        [(1, false,
                            [C.tr true
                                (T.arr 1
                                  (f_bCl
                                      (inv ok_bCl ea_bCl
                                        [(0, false,
                                            [C.tr false
                                                (T.arr 1
                                                  (inv ok_LB ea_LB [(0, false, [C.tr false (eL 1 rowB a.4)])]).length
                                                  (cutT 0
                                                    (inv ok_LB ea_LB [(0, false, [C.tr false (eL 1 rowB a.4)])]).length
                                                    (atL rowB
                                                      (inv ok_LB ea_LB
                                                        [(0, false, [C.tr false (eL 1 rowB a.4)])]))))])])).length
                                  (atL rowB
                                    (f_bCl
                                      (inv ok_bCl ea_bCl
                                        [(0, false,
                                            [C.tr false
                                                (T.arr 1
                                                  (inv ok_LB ea_LB [(0, false, [C.tr false (eL 1 rowB a.4)])]).length
                                                  (cutT 0
                                                    (inv ok_LB ea_LB [(0, false, [C.tr false (eL 1 rowB a.4)])]).length
                                                    (atL rowB
                                                      (inv ok_LB ea_LB
                                                        [(0, false, [C.tr false (eL 1 rowB a.4)])]))))])]))))]),
                          (0, false, [C.tr false (T.int IntKind.i64 1)])])))))]),
        (0, false, [C.tr false (T.int IntKind.i64 1)])]) !=
  f_ctLB
    (inv okh_LB eam_LB
      [(1, false,
          [C.tr true
              (T.arr 1
                (f_bCl
                    (inv ok_bCl ea_bCl
                      [(0, false,
                          [C.tr false
                              (T.arr 1 (inv ok_LB ea_LB [(0, false, [C.tr false (eL 1 rowB a.4)])]).length
                                (cutT 0 (inv ok_LB ea_LB [(0, false, [C.tr false (eL 1 rowB a.4)])]).length
                                  (atL rowB (inv ok_LB ea_LB [(0, false, [C.tr false (eL 1 rowB a.4)])]))))])])).length
                (atL rowB
                  (f_bCl
                    (inv ok_bCl ea_bCl
                      [(0, false,
                          [C.tr false
                              (T.arr 1 (inv ok_LB ea_LB [(0, false, [C.tr false (eL 1 rowB a.4)])]).length
                                (cutT 0 (inv ok_LB ea_LB [(0, false, [C.tr false (eL 1 rowB a.4)])]).length
                                  (atL rowB (inv ok_LB ea_LB [(0, false, [C.tr false (eL 1 rowB a.4)])]))))])]))))]),
        (0, false, [C.tr false (T.int IntKind.i64 1)])]) then
  some ([(false, [.tr true (T.bool false)])], [(false, [])])
 else
 gd (dom ok_LB ea_LB [(0, false, [C.tr false (eL 1 rowB a.4)])]) <|
 gd ((inv ok_LB ea_LB [(0, false, [C.tr false (eL 1 rowB a.4)])]).length.ble
    (inv ok_LB ea_LB [(0, false, [C.tr false (eL 1 rowB a.4)])]).length &&
  true) <|
 gd ((inv ok_LB ea_LB [(0, false, [C.tr false (eL 1 rowB a.4)])]).length.ble
    (inv ok_LB ea_LB [(0, false, [C.tr false (eL 1 rowB a.4)])]).length &&
  true) <|
 gd ((inv ok_LB ea_LB [(0, false, [C.tr false (eL 1 rowB a.4)])]).length.ble
    (inv ok_LB ea_LB [(0, false, [C.tr false (eL 1 rowB a.4)])]).length &&
  true) <|
 gd ((0 + (inv ok_LB ea_LB [(0, false, [C.tr false (eL 1 rowB a.4)])]).length).ble
  (inv ok_LB ea_LB [(0, false, [C.tr false (eL 1 rowB a.4)])]).length) <|
 gd (dom ok_bCl ea_bCl
  [(0, false,
      [C.tr false
          (T.arr 1 (inv ok_LB ea_LB [(0, false, [C.tr false (eL 1 rowB a.4)])]).length
            (cutT 0 (inv ok_LB ea_LB [(0, false, [C.tr false (eL 1 rowB a.4)])]).length
              (atL rowB (inv ok_LB ea_LB [(0, false, [C.tr false (eL 1 rowB a.4)])]))))])]) <|
 gd ((f_bCl
          (inv ok_bCl ea_bCl
            [(0, false,
                [C.tr false
                    (T.arr 1 (inv ok_LB ea_LB [(0, false, [C.tr false (eL 1 rowB a.4)])]).length
                      (cutT 0 (inv ok_LB ea_LB [(0, false, [C.tr false (eL 1 rowB a.4)])]).length
                        (atL rowB (inv ok_LB ea_LB [(0, false, [C.tr false (eL 1 rowB a.4)])]))))])])).length.ble
    (f_bCl
        (inv ok_bCl ea_bCl
          [(0, false,
              [C.tr false
                  (T.arr 1 (inv ok_LB ea_LB [(0, false, [C.tr false (eL 1 rowB a.4)])]).length
                    (cutT 0 (inv ok_LB ea_LB [(0, false, [C.tr false (eL 1 rowB a.4)])]).length
                      (atL rowB (inv ok_LB ea_LB [(0, false, [C.tr false (eL 1 rowB a.4)])]))))])])).length &&
  true) <|
 gd ((f_bCl
          (inv ok_bCl ea_bCl
            [(0, false,
                [C.tr false
                    (T.arr 1 (inv ok_LB ea_LB [(0, false, [C.tr false (eL 1 rowB a.4)])]).length
                      (cutT 0 (inv ok_LB ea_LB [(0, false, [C.tr false (eL 1 rowB a.4)])]).length
                        (atL rowB (inv ok_LB ea_LB [(0, false, [C.tr false (eL 1 rowB a.4)])]))))])])).length.ble
    (f_bCl
        (inv ok_bCl ea_bCl
          [(0, false,
              [C.tr false
                  (T.arr 1 (inv ok_LB ea_LB [(0, false, [C.tr false (eL 1 rowB a.4)])]).length
                    (cutT 0 (inv ok_LB ea_LB [(0, false, [C.tr false (eL 1 rowB a.4)])]).length
                      (atL rowB (inv ok_LB ea_LB [(0, false, [C.tr false (eL 1 rowB a.4)])]))))])])).length &&
  true) <|
 gd ((f_bCl
          (inv ok_bCl ea_bCl
            [(0, false,
                [C.tr false
                    (T.arr 1 (inv ok_LB ea_LB [(0, false, [C.tr false (eL 1 rowB a.4)])]).length
                      (cutT 0 (inv ok_LB ea_LB [(0, false, [C.tr false (eL 1 rowB a.4)])]).length
                        (atL rowB (inv ok_LB ea_LB [(0, false, [C.tr false (eL 1 rowB a.4)])]))))])])).length.ble
    (f_bCl
        (inv ok_bCl ea_bCl
          [(0, false,
              [C.tr false
                  (T.arr 1 (inv ok_LB ea_LB [(0, false, [C.tr false (eL 1 rowB a.4)])]).length
                    (cutT 0 (inv ok_LB ea_LB [(0, false, [C.tr false (eL 1 rowB a.4)])]).length
                      (atL rowB (inv ok_LB ea_LB [(0, false, [C.tr false (eL 1 rowB a.4)])]))))])])).length &&
  true) <|
 gd ((f_bCl
          (inv ok_bCl ea_bCl
            [(0, false,
                [C.tr false
                    (T.arr 1 (inv ok_LB ea_LB [(0, false, [C.tr false (eL 1 rowB a.4)])]).length
                      (cutT 0 (inv ok_LB ea_LB [(0, false, [C.tr false (eL 1 rowB a.4)])]).length
                        (atL rowB (inv ok_LB ea_LB [(0, false, [C.tr false (eL 1 rowB a.4)])]))))])])).length.ble
    (f_bCl
        (inv ok_bCl ea_bCl
          [(0, false,
              [C.tr false
                  (T.arr 1 (inv ok_LB ea_LB [(0, false, [C.tr false (eL 1 rowB a.4)])]).length
                    (cutT 0 (inv ok_LB ea_LB [(0, false, [C.tr false (eL 1 rowB a.4)])]).length
                      (atL rowB (inv ok_LB ea_LB [(0, false, [C.tr false (eL 1 rowB a.4)])]))))])])).length &&
  true) <|
 gd ((0 +
      (f_bCl
          (inv ok_bCl ea_bCl
            [(0, false,
                [C.tr false
                    (T.arr 1 (inv ok_LB ea_LB [(0, false, [C.tr false (eL 1 rowB a.4)])]).length
                      (cutT 0 (inv ok_LB ea_LB [(0, false, [C.tr false (eL 1 rowB a.4)])]).length
                        (atL rowB (inv ok_LB ea_LB [(0, false, [C.tr false (eL 1 rowB a.4)])]))))])])).length).ble
  (f_bCl
      (inv ok_bCl ea_bCl
        [(0, false,
            [C.tr false
                (T.arr 1 (inv ok_LB ea_LB [(0, false, [C.tr false (eL 1 rowB a.4)])]).length
                  (cutT 0 (inv ok_LB ea_LB [(0, false, [C.tr false (eL 1 rowB a.4)])]).length
                    (atL rowB (inv ok_LB ea_LB [(0, false, [C.tr false (eL 1 rowB a.4)])]))))])])).length) <|
 gd ((0 + (0 + (inv ok_LB ea_LB [(0, false, [C.tr false (eL 1 rowB a.4)])]).length)).ble
  (0 + (inv ok_LB ea_LB [(0, false, [C.tr false (eL 1 rowB a.4)])]).length)) <|
 gd (dom ok_EqAn ea_EqAn
  [(0, true,
      [C.tr false (T.int IntKind.i64 a.1), C.tr false (T.int IntKind.i64 a.h.1),
        C.tr false (T.int IntKind.i64 a.h.2), C.tr false (T.int IntKind.i64 a.r.h.1),
        C.tr false (T.int IntKind.i64 a.r.h.2), C.tr false (T.int IntKind.i64 a.r.2),
        C.tr false (T.int IntKind.i64 a.r.3),
        C.tr false
          (T.arr 1
            (f_bCl
                (inv ok_bCl ea_bCl
                  [(0, false,
                      [C.tr false
                          (T.arr 1 (inv ok_LB ea_LB [(0, false, [C.tr false (eL 1 rowB a.4)])]).length
                            (cutT 0 (inv ok_LB ea_LB [(0, false, [C.tr false (eL 1 rowB a.4)])]).length
                              (atL rowB (inv ok_LB ea_LB [(0, false, [C.tr false (eL 1 rowB a.4)])]))))])])).length
            (cutT 0
              (f_bCl
                  (inv ok_bCl ea_bCl
                    [(0, false,
                        [C.tr false
                            (T.arr 1 (inv ok_LB ea_LB [(0, false, [C.tr false (eL 1 rowB a.4)])]).length
                              (cutT 0 (inv ok_LB ea_LB [(0, false, [C.tr false (eL 1 rowB a.4)])]).length
                                (atL rowB (inv ok_LB ea_LB [(0, false, [C.tr false (eL 1 rowB a.4)])]))))])])).length
              (atL rowB
                (f_bCl
                  (inv ok_bCl ea_bCl
                    [(0, false,
                        [C.tr false
                            (T.arr 1 (inv ok_LB ea_LB [(0, false, [C.tr false (eL 1 rowB a.4)])]).length
                              (cutT 0 (inv ok_LB ea_LB [(0, false, [C.tr false (eL 1 rowB a.4)])]).length
                                (atL rowB (inv ok_LB ea_LB [(0, false, [C.tr false (eL 1 rowB a.4)])]))))])]))))),
        C.tr false (T.int IntKind.i64 0), C.tr false (T.int IntKind.i64 0), C.tr false (T.int IntKind.i64 0)]),
    (0, true,
      [C.tr false (T.int IntKind.i64 a.1), C.tr false (T.int IntKind.i64 a.h.1),
        C.tr false (T.int IntKind.i64 a.h.2), C.tr false (T.int IntKind.i64 a.r.h.1),
        C.tr false (T.int IntKind.i64 a.r.h.2), C.tr false (T.int IntKind.i64 a.r.2),
        C.tr false (T.int IntKind.i64 a.r.3),
        C.tr false
          (T.arr 1 (0 + (inv ok_LB ea_LB [(0, false, [C.tr false (eL 1 rowB a.4)])]).length)
            (cutT 0 (0 + (inv ok_LB ea_LB [(0, false, [C.tr false (eL 1 rowB a.4)])]).length)
              (appF 0 (fun j k => T.hole)
                (plainF
                  (cutT 0 (inv ok_LB ea_LB [(0, false, [C.tr false (eL 1 rowB a.4)])]).length
                    (atL rowB (inv ok_LB ea_LB [(0, false, [C.tr false (eL 1 rowB a.4)])]))))))),
        C.tr false (T.int IntKind.i64 0), C.tr false (T.int IntKind.i64 0), C.tr false (T.int IntKind.i64 0)])]) <|
 bif !f_EqAn
    (inv ok_EqAn ea_EqAn
      [(0, true,
          [C.tr false (T.int IntKind.i64 a.1), C.tr false (T.int IntKind.i64 a.h.1),
            C.tr false (T.int IntKind.i64 a.h.2), C.tr false (T.int IntKind.i64 a.r.h.1),
            C.tr false (T.int IntKind.i64 a.r.h.2), C.tr false (T.int IntKind.i64 a.r.2),
            C.tr false (T.int IntKind.i64 a.r.3),
            C.tr false
              (T.arr 1
                (f_bCl
                    (inv ok_bCl ea_bCl
                      [(0, false,
                          [C.tr false
                              (T.arr 1 (inv ok_LB ea_LB [(0, false, [C.tr false (eL 1 rowB a.4)])]).length
                                (cutT 0 (inv ok_LB ea_LB [(0, false, [C.tr false (eL 1 rowB a.4)])]).length
                                  (atL rowB (inv ok_LB ea_LB [(0, false, [C.tr false (eL 1 rowB a.4)])]))))])])).length
                (cutT 0
                  (f_bCl
                      (inv ok_bCl ea_bCl
                        [(0, false,
                            [C.tr false
                                (T.arr 1 (inv ok_LB ea_LB [(0, false, [C.tr false (eL 1 rowB a.4)])]).length
                                  (cutT 0 (inv ok_LB ea_LB [(0, false, [C.tr false (eL 1 rowB a.4)])]).length
                                    (atL rowB
                                      (inv ok_LB ea_LB [(0, false, [C.tr false (eL 1 rowB a.4)])]))))])])).length
                  (atL rowB
                    (f_bCl
                      (inv ok_bCl ea_bCl
                        [(0, false,
                            [C.tr false
                                (T.arr 1 (inv ok_LB ea_LB [(0, false, [C.tr false (eL 1 rowB a.4)])]).length
                                  (cutT 0 (inv ok_LB ea_LB [(0, false, [C.tr false (eL 1 rowB a.4)])]).length
                                    (atL rowB (inv ok_LB ea_LB [(0, false, [C.tr false (eL 1 rowB a.4)])]))))])]))))),
            C.tr false (T.int IntKind.i64 0), C.tr false (T.int IntKind.i64 0), C.tr false (T.int IntKind.i64 0)]),
        (0, true,
          [C.tr false (T.int IntKind.i64 a.1), C.tr false (T.int IntKind.i64 a.h.1),
            C.tr false (T.int IntKind.i64 a.h.2), C.tr false (T.int IntKind.i64 a.r.h.1),
            C.tr false (T.int IntKind.i64 a.r.h.2), C.tr false (T.int IntKind.i64 a.r.2),
            C.tr false (T.int IntKind.i64 a.r.3),
            C.tr false
              (T.arr 1 (0 + (inv ok_LB ea_LB [(0, false, [C.tr false (eL 1 rowB a.4)])]).length)
                (cutT 0 (0 + (inv ok_LB ea_LB [(0, false, [C.tr false (eL 1 rowB a.4)])]).length)
                  (appF 0 (fun j k => T.hole)
                    (plainF
                      (cutT 0 (inv ok_LB ea_LB [(0, false, [C.tr false (eL 1 rowB a.4)])]).length
                        (atL rowB (inv ok_LB ea_LB [(0, false, [C.tr false (eL 1 rowB a.4)])]))))))),
            C.tr false (T.int IntKind.i64 0), C.tr false (T.int IntKind.i64 0), C.tr false (T.int IntKind.i64 0)])]) then
  some ([(false, [.tr true (T.bool false)])], [(false, [])])
 else
 gd ((0 +
      (f_mkLB
          (inv okh_LB eam_LB
            [(1, false,
                [C.tr true
                    (T.arr 1
                      (f_bCl
                          (inv ok_bCl ea_bCl
                            [(0, false,
                                [C.tr false
                                    (T.arr 1 (inv ok_LB ea_LB [(0, false, [C.tr false (eL 1 rowB a.4)])]).length
                                      (cutT 0 (inv ok_LB ea_LB [(0, false, [C.tr false (eL 1 rowB a.4)])]).length
                                        (atL rowB
                                          (inv ok_LB ea_LB [(0, false, [C.tr false (eL 1 rowB a.4)])]))))])])).length
                      (atL rowB
                        (f_bCl
                          (inv ok_bCl ea_bCl
                            [(0, false,
                                [C.tr false
                                    (T.arr 1 (inv ok_LB ea_LB [(0, false, [C.tr false (eL 1 rowB a.4)])]).length
                                      (cutT 0 (inv ok_LB ea_LB [(0, false, [C.tr false (eL 1 rowB a.4)])]).length
                                        (atL rowB
                                          (inv ok_LB ea_LB [(0, false, [C.tr false (eL 1 rowB a.4)])]))))])]))))]),
              (0, false, [C.tr false (T.int IntKind.i64 1)])])).length).ble
  (f_mkLB
      (inv okh_LB eam_LB
        [(1, false,
            [C.tr true
                (T.arr 1
                  (f_bCl
                      (inv ok_bCl ea_bCl
                        [(0, false,
                            [C.tr false
                                (T.arr 1 (inv ok_LB ea_LB [(0, false, [C.tr false (eL 1 rowB a.4)])]).length
                                  (cutT 0 (inv ok_LB ea_LB [(0, false, [C.tr false (eL 1 rowB a.4)])]).length
                                    (atL rowB
                                      (inv ok_LB ea_LB [(0, false, [C.tr false (eL 1 rowB a.4)])]))))])])).length
                  (atL rowB
                    (f_bCl
                      (inv ok_bCl ea_bCl
                        [(0, false,
                            [C.tr false
                                (T.arr 1 (inv ok_LB ea_LB [(0, false, [C.tr false (eL 1 rowB a.4)])]).length
                                  (cutT 0 (inv ok_LB ea_LB [(0, false, [C.tr false (eL 1 rowB a.4)])]).length
                                    (atL rowB (inv ok_LB ea_LB [(0, false, [C.tr false (eL 1 rowB a.4)])]))))])]))))]),
          (0, false, [C.tr false (T.int IntKind.i64 1)])])).length) <|
 gd (dom okh_LB eah_LB
  [(0, false,
      [C.tr false
          (T.arr 1
            (f_mkLB
                (inv okh_LB eam_LB
                  [(1, false,
                      [C.tr true
                          (T.arr 1
                            (f_bCl
                                (inv ok_bCl ea_bCl
                                  [(0, false,
                                      [C.tr false
                                          (T.arr 1 (inv ok_LB ea_LB [(0, false, [C.tr false (eL 1 rowB a.4)])]).length
                                            (cutT 0 (inv ok_LB ea_LB [(0, false, [C.tr false (eL 1 rowB a.4)])]).length
                                              (atL rowB
                                                (inv ok_LB ea_LB
                                                  [(0, false, [C.tr false (eL 1 rowB a.4)])]))))])])).length
                            (atL rowB
                              (f_bCl
                                (inv ok_bCl ea_bCl
                                  [(0, false,
                                      [C.tr false
                                          (T.arr 1 (inv ok_LB ea_LB [(0, false, [C.tr false (eL 1 rowB a.4)])]).length
                                            (cutT 0 (inv ok_LB ea_LB [(0, false, [C.tr false (eL 1 rowB a.4)])]).length
                                              (atL rowB
                                                (inv ok_LB ea_LB
                                                  [(0, false, [C.tr false (eL 1 rowB a.4)])]))))])]))))]),
                    (0, false, [C.tr false (T.int IntKind.i64 1)])])).length
            (cutT 0
              (f_mkLB
                  (inv okh_LB eam_LB
                    [(1, false,
                        [C.tr true
                            (T.arr 1
                              (f_bCl
                                  (inv ok_bCl ea_bCl
                                    [(0, false,
                                        [C.tr false
                                            (T.arr 1
                                              (inv ok_LB ea_LB [(0, false, [C.tr false (eL 1 rowB a.4)])]).length
                                              (cutT 0
                                                (inv ok_LB ea_LB [(0, false, [C.tr false (eL 1 rowB a.4)])]).length
                                                (atL rowB
                                                  (inv ok_LB ea_LB
                                                    [(0, false, [C.tr false (eL 1 rowB a.4)])]))))])])).length
                              (atL rowB
                                (f_bCl
                                  (inv ok_bCl ea_bCl
                                    [(0, false,
                                        [C.tr false
                                            (T.arr 1
                                              (inv ok_LB ea_LB [(0, false, [C.tr false (eL 1 rowB a.4)])]).length
                                              (cutT 0
                                                (inv ok_LB ea_LB [(0, false, [C.tr false (eL 1 rowB a.4)])]).length
                                                (atL rowB
                                                  (inv ok_LB ea_LB
                                                    [(0, false, [C.tr false (eL 1 rowB a.4)])]))))])]))))]),
                      (0, false, [C.tr false (T.int IntKind.i64 1)])])).length
              (atL rowB
                (f_mkLB
                  (inv okh_LB eam_LB
                    [(1, false,
                        [C.tr true
                            (T.arr 1
                              (f_bCl
                                  (inv ok_bCl ea_bCl
                                    [(0, false,
                                        [C.tr false
                                            (T.arr 1
                                              (inv ok_LB ea_LB [(0, false, [C.tr false (eL 1 rowB a.4)])]).length
                                              (cutT 0
                                                (inv ok_LB ea_LB [(0, false, [C.tr false (eL 1 rowB a.4)])]).length
                                                (atL rowB
                                                  (inv ok_LB ea_LB
                                                    [(0, false, [C.tr false (eL 1 rowB a.4)])]))))])])).length
                              (atL rowB
                                (f_bCl
                                  (inv ok_bCl ea_bCl
                                    [(0, false,
                                        [C.tr false
                                            (T.arr 1
                                              (inv ok_LB ea_LB [(0, false, [C.tr false (eL 1 rowB a.4)])]).length
                                              (cutT 0
                                                (inv ok_LB ea_LB [(0, false, [C.tr false (eL 1 rowB a.4)])]).length
                                                (atL rowB
                                                  (inv ok_LB ea_LB
                                                    [(0, false, [C.tr false (eL 1 rowB a.4)])]))))])]))))]),
                      (0, false, [C.tr false (T.int IntKind.i64 1)])])))))]),
    (0, false, [C.tr false (T.int IntKind.i64 1)])]) <|
 bif decide
  (f_hdLB
      (inv okh_LB eah_LB
        [(0, false,
            [C.tr false
                (T.arr 1
                  (f_mkLB
                      (inv okh_LB eam_LB
                        [(1, false,
                            [C.tr true
                                (T.arr 1
                                  (f_bCl
                                      (inv ok_bCl ea_bCl
                                        [(0, false,
                                            [C.tr false
                                                (T.arr 1
                                                  (inv ok_LB ea_LB [(0, false, [C.tr false (eL 1 rowB a.4)])]).length
                                                  (cutT 0
                                                    (inv ok_LB ea_LB [(0, false, [C.tr false (eL 1 rowB a.4)])]).length
                                                    (atL rowB
                                                      (inv ok_LB ea_LB
                                                        [(0, false, [C.tr false (eL 1 rowB a.4)])]))))])])).length
                                  (atL rowB
                                    (f_bCl
                                      (inv ok_bCl ea_bCl
                                        [(0, false,
                                            [C.tr false
                                                (T.arr 1
                                                  (inv ok_LB ea_LB [(0, false, [C.tr false (eL 1 rowB a.4)])]).length
                                                  (cutT 0
                                                    (inv ok_LB ea_LB [(0, false, [C.tr false (eL 1 rowB a.4)])]).length
                                                    (atL rowB
                                                      (inv ok_LB ea_LB
                                                        [(0, false, [C.tr false (eL 1 rowB a.4)])]))))])]))))]),
                          (0, false, [C.tr false (T.int IntKind.i64 1)])])).length
                  (cutT 0
                    (f_mkLB
                        (inv okh_LB eam_LB
                          [(1, false,
                              [C.tr true
                                  (T.arr 1
                                    (f_bCl
                                        (inv ok_bCl ea_bCl
                                          [(0, false,
                                              [C.tr false
                                                  (T.arr 1
                                                    (inv ok_LB ea_LB [(0, false, [C.tr false (eL 1 rowB a.4)])]).length
                                                    (cutT 0
                                                      (inv ok_LB ea_LB
                                                          [(0, false, [C.tr false (eL 1 rowB a.4)])]).length
                                                      (atL rowB
                                                        (inv ok_LB ea_LB
                                                          [(0, false, [C.tr false (eL 1 rowB a.4)])]))))])])).length
                                    (atL rowB
                                      (f_bCl
                                        (inv ok_bCl ea_bCl
                                          [(0, false,
                                              [C.tr false
                                                  (T.arr 1
                                                    (inv ok_LB ea_LB [(0, false, [C.tr false (eL 1 rowB a.4)])]).length
                                                    (cutT 0
                                                      (inv ok_LB ea_LB
                                                          [(0, false, [C.tr false (eL 1 rowB a.4)])]).length
                                                      (atL rowB
                                                        (inv ok_LB ea_LB
                                                          [(0, false, [C.tr false (eL 1 rowB a.4)])]))))])]))))]),
                            (0, false, [C.tr false (T.int IntKind.i64 1)])])).length
                    (atL rowB
                      (f_mkLB
                        (inv okh_LB eam_LB
                          [(1, false,
                              [C.tr true
                                  (T.arr 1
                                    (f_bCl
                                        (inv ok_bCl ea_bCl
                                          [(0, false,
                                              [C.tr false
                                                  (T.arr 1
                                                    (inv ok_LB ea_LB [(0, false, [C.tr false (eL 1 rowB a.4)])]).length
                                                    (cutT 0
                                                      (inv ok_LB ea_LB
                                                          [(0, false, [C.tr false (eL 1 rowB a.4)])]).length
                                                      (atL rowB
                                                        (inv ok_LB ea_LB
                                                          [(0, false, [C.tr false (eL 1 rowB a.4)])]))))])])).length
                                    (atL rowB
                                      (f_bCl
                                        (inv ok_bCl ea_bCl
                                          [(0, false,
                                              [C.tr false
                                                  (T.arr 1
                                                    (inv ok_LB ea_LB [(0, false, [C.tr false (eL 1 rowB a.4)])]).length
                                                    (cutT 0
                                                      (inv ok_LB ea_LB
                                                          [(0, false, [C.tr false (eL 1 rowB a.4)])]).length
                                                      (atL rowB
                                                        (inv ok_LB ea_LB
                                                          [(0, false, [C.tr false (eL 1 rowB a.4)])]))))])]))))]),
                            (0, false, [C.tr false (T.int IntKind.i64 1)])])))))]),
          (0, false, [C.tr false (T.int IntKind.i64 1)])]) <
    0) then
  some ([(false, [.tr true (T.bool false)])], [(false, [])])
 else
 bif decide
  (f_hdLB
      (inv okh_LB eah_LB
        [(0, false,
            [C.tr false
                (T.arr 1
                  (f_mkLB
                      (inv okh_LB eam_LB
                        [(1, false,
                            [C.tr true
                                (T.arr 1
                                  (f_bCl
                                      (inv ok_bCl ea_bCl
                                        [(0, false,
                                            [C.tr false
                                                (T.arr 1
                                                  (inv ok_LB ea_LB [(0, false, [C.tr false (eL 1 rowB a.4)])]).length
                                                  (cutT 0
                                                    (inv ok_LB ea_LB [(0, false, [C.tr false (eL 1 rowB a.4)])]).length
                                                    (atL rowB
                                                      (inv ok_LB ea_LB
                                                        [(0, false, [C.tr false (eL 1 rowB a.4)])]))))])])).length
                                  (atL rowB
                                    (f_bCl
                                      (inv ok_bCl ea_bCl
                                        [(0, false,
                                            [C.tr false
                                                (T.arr 1
                                                  (inv ok_LB ea_LB [(0, false, [C.tr false (eL 1 rowB a.4)])]).length
                                                  (cutT 0
                                                    (inv ok_LB ea_LB [(0, false, [C.tr false (eL 1 rowB a.4)])]).length
                                                    (atL rowB
                                                      (inv ok_LB ea_LB
                                                        [(0, false, [C.tr false (eL 1 rowB a.4)])]))))])]))))]),
                          (0, false, [C.tr false (T.int IntKind.i64 1)])])).length
                  (cutT 0
                    (f_mkLB
                        (inv okh_LB eam_LB
                          [(1, false,
                              [C.tr true
                                  (T.arr 1
                                    (f_bCl
                                        (inv ok_bCl ea_bCl
                                          [(0, false,
                                              [C.tr false
                                                  (T.arr 1
                                                    (inv ok_LB ea_LB [(0, false, [C.tr false (eL 1 rowB a.4)])]).length
                                                    (cutT 0
                                                      (inv ok_LB ea_LB
                                                          [(0, false, [C.tr false (eL 1 rowB a.4)])]).length
                                                      (atL rowB
                                                        (inv ok_LB ea_LB
                                                          [(0, false, [C.tr false (eL 1 rowB a.4)])]))))])])).length
                                    (atL rowB
                                      (f_bCl
                                        (inv ok_bCl ea_bCl
                                          [(0, false,
                                              [C.tr false
                                                  (T.arr 1
                                                    (inv ok_LB ea_LB [(0, false, [C.tr false (eL 1 rowB a.4)])]).length
                                                    (cutT 0
                                                      (inv ok_LB ea_LB
                                                          [(0, false, [C.tr false (eL 1 rowB a.4)])]).length
                                                      (atL rowB
                                                        (inv ok_LB ea_LB
                                                          [(0, false, [C.tr false (eL 1 rowB a.4)])]))))])]))))]),
                            (0, false, [C.tr false (T.int IntKind.i64 1)])])).length
                    (atL rowB
                      (f_mkLB
                        (inv okh_LB eam_LB
                          [(1, false,
                              [C.tr true
                                  (T.arr 1
                                    (f_bCl
                                        (inv ok_bCl ea_bCl
                                          [(0, false,
                                              [C.tr false
                                                  (T.arr 1
                                                    (inv ok_LB ea_LB [(0, false, [C.tr false (eL 1 rowB a.4)])]).length
                                                    (cutT 0
                                                      (inv ok_LB ea_LB
                                                          [(0, false, [C.tr false (eL 1 rowB a.4)])]).length
                                                      (atL rowB
                                                        (inv ok_LB ea_LB
                                                          [(0, false, [C.tr false (eL 1 rowB a.4)])]))))])])).length
                                    (atL rowB
                                      (f_bCl
                                        (inv ok_bCl ea_bCl
                                          [(0, false,
                                              [C.tr false
                                                  (T.arr 1
                                                    (inv ok_LB ea_LB [(0, false, [C.tr false (eL 1 rowB a.4)])]).length
                                                    (cutT 0
                                                      (inv ok_LB ea_LB
                                                          [(0, false, [C.tr false (eL 1 rowB a.4)])]).length
                                                      (atL rowB
                                                        (inv ok_LB ea_LB
                                                          [(0, false, [C.tr false (eL 1 rowB a.4)])]))))])]))))]),
                            (0, false, [C.tr false (T.int IntKind.i64 1)])])))))]),
          (0, false, [C.tr false (T.int IntKind.i64 1)])]) <
    0) then
  some ([(false, [.tr true (T.bool false)])], [(false, [])])
 else
 bif f_hdLB
    (inv okh_LB eah_LB
      [(0, false,
          [C.tr false
              (T.arr 1
                (f_mkLB
                    (inv okh_LB eam_LB
                      [(1, false,
                          [C.tr true
                              (T.arr 1
                                (f_bCl
                                    (inv ok_bCl ea_bCl
                                      [(0, false,
                                          [C.tr false
                                              (T.arr 1
                                                (inv ok_LB ea_LB [(0, false, [C.tr false (eL 1 rowB a.4)])]).length
                                                (cutT 0
                                                  (inv ok_LB ea_LB [(0, false, [C.tr false (eL 1 rowB a.4)])]).length
                                                  (atL rowB
                                                    (inv ok_LB ea_LB
                                                      [(0, false, [C.tr false (eL 1 rowB a.4)])]))))])])).length
                                (atL rowB
                                  (f_bCl
                                    (inv ok_bCl ea_bCl
                                      [(0, false,
                                          [C.tr false
                                              (T.arr 1
                                                (inv ok_LB ea_LB [(0, false, [C.tr false (eL 1 rowB a.4)])]).length
                                                (cutT 0
                                                  (inv ok_LB ea_LB [(0, false, [C.tr false (eL 1 rowB a.4)])]).length
                                                  (atL rowB
                                                    (inv ok_LB ea_LB
                                                      [(0, false, [C.tr false (eL 1 rowB a.4)])]))))])]))))]),
                        (0, false, [C.tr false (T.int IntKind.i64 1)])])).length
                (cutT 0
                  (f_mkLB
                      (inv okh_LB eam_LB
                        [(1, false,
                            [C.tr true
                                (T.arr 1
                                  (f_bCl
                                      (inv ok_bCl ea_bCl
                                        [(0, false,
                                            [C.tr false
                                                (T.arr 1
                                                  (inv ok_LB ea_LB [(0, false, [C.tr false (eL 1 rowB a.4)])]).length
                                                  (cutT 0
                                                    (inv ok_LB ea_LB [(0, false, [C.tr false (eL 1 rowB a.4)])]).length
                                                    (atL rowB
                                                      (inv ok_LB ea_LB
                                                        [(0, false, [C.tr false (eL 1 rowB a.4)])]))))])])).length
                                  (atL rowB
                                    (f_bCl
                                      (inv ok_bCl ea_bCl
                                        [(0, false,
                                            [C.tr false
                                                (T.arr 1
                                                  (inv ok_LB ea_LB [(0, false, [C.tr false (eL 1 rowB a.4)])]).length
                                                  (cutT 0
                                                    (inv ok_LB ea_LB [(0, false, [C.tr false (eL 1 rowB a.4)])]).length
                                                    (atL rowB
                                                      (inv ok_LB ea_LB
                                                        [(0, false, [C.tr false (eL 1 rowB a.4)])]))))])]))))]),
                          (0, false, [C.tr false (T.int IntKind.i64 1)])])).length
                  (atL rowB
                    (f_mkLB
                      (inv okh_LB eam_LB
                        [(1, false,
                            [C.tr true
                                (T.arr 1
                                  (f_bCl
                                      (inv ok_bCl ea_bCl
                                        [(0, false,
                                            [C.tr false
                                                (T.arr 1
                                                  (inv ok_LB ea_LB [(0, false, [C.tr false (eL 1 rowB a.4)])]).length
                                                  (cutT 0
                                                    (inv ok_LB ea_LB [(0, false, [C.tr false (eL 1 rowB a.4)])]).length
                                                    (atL rowB
                                                      (inv ok_LB ea_LB
                                                        [(0, false, [C.tr false (eL 1 rowB a.4)])]))))])])).length
                                  (atL rowB
                                    (f_bCl
                                      (inv ok_bCl ea_bCl
                                        [(0, false,
                                            [C.tr false
                                                (T.arr 1
                                                  (inv ok_LB ea_LB [(0, false, [C.tr false (eL 1 rowB a.4)])]).length
                                                  (cutT 0
                                                    (inv ok_LB ea_LB [(0, false, [C.tr false (eL 1 rowB a.4)])]).length
                                                    (atL rowB
                                                      (inv ok_LB ea_LB
                                                        [(0, false, [C.tr false (eL 1 rowB a.4)])]))))])]))))]),
                          (0, false, [C.tr false (T.int IntKind.i64 1)])])))))]),
        (0, false, [C.tr false (T.int IntKind.i64 1)])]) !=
  f_ctLB
    (inv okh_LB eam_LB
      [(1, false,
          [C.tr true
              (T.arr 1
                (f_bCl
                    (inv ok_bCl ea_bCl
                      [(0, false,
                          [C.tr false
                              (T.arr 1 (inv ok_LB ea_LB [(0, false, [C.tr false (eL 1 rowB a.4)])]).length
                                (cutT 0 (inv ok_LB ea_LB [(0, false, [C.tr false (eL 1 rowB a.4)])]).length
                                  (atL rowB (inv ok_LB ea_LB [(0, false, [C.tr false (eL 1 rowB a.4)])]))))])])).length
                (atL rowB
                  (f_bCl
                    (inv ok_bCl ea_bCl
                      [(0, false,
                          [C.tr false
                              (T.arr 1 (inv ok_LB ea_LB [(0, false, [C.tr false (eL 1 rowB a.4)])]).length
                                (cutT 0 (inv ok_LB ea_LB [(0, false, [C.tr false (eL 1 rowB a.4)])]).length
                                  (atL rowB (inv ok_LB ea_LB [(0, false, [C.tr false (eL 1 rowB a.4)])]))))])]))))]),
        (0, false, [C.tr false (T.int IntKind.i64 1)])]) then
  some ([(false, [.tr true (T.bool false)])], [(false, [])])
 else
 some ([(false, [.tr true (T.bool true)])], [(false, [])])) := by kernel_rfl
theorem markL_idem {α : Type} (f : α → Int → α) (c : α → Nat) (hf : ∀ x k, f (f x k) k = f x k) (hc : ∀ x k, c (f x k) = c x) : ∀ (l : List α) (k : Int), markL f c (markL f c l k) k = markL f c l k
  | [], k => rfl
  | x :: l, k => by
    simp only [markL, hf, hc]
    rw [markL_idem f c hf hc l]
theorem cntL_mark {α : Type} (f : α → Int → α) (c : α → Nat) (hc : ∀ x k, c (f x k) = c x) : ∀ (l : List α) (k : Int), cntL c (markL f c l k) = cntL c l
  | [], k => rfl
  | x :: l, k => by
    simp only [markL, cntL, hc]
    rw [cntL_mark f c hc l]
theorem mk_mkLB (l : List UInt8) (k : Int) : mk_LB (mk_LB l k) k = mk_LB l k := markL_idem m1_LB c1_LB (fun _ _ => rfl) (fun _ _ => rfl) l k
theorem ct_mkLB (l : List UInt8) (k : Int) : cntL c1_LB (mk_LB l k) = cntL c1_LB l := cntL_mark m1_LB c1_LB (fun _ _ => rfl) l k
theorem body_xBared (a : An) (ha : z_An a) (n : Nat) : body prog (tabS [(i_szAn, e_szAn), (i_toAn, e_toAn), (i_iBared, e_iBared), (i_sBared, e_sBared), (i_EqAn, e_EqAn), (i_markAn, e_markAn), (i_heldAn, e_heldAn)]) kp_xBared n F_xBared [aR a.cs] = some (erB 1 true) := by
  have hzm := zm
  have hlm := lm
  have hbm := bm
  have ha : a.b.length ≤ ZM := ha
  rw [pre_xBared]
  simp (disch := omega) only [wrapI]
  by_cases e0 : 1048576 - (a.b.length : Int) < 0
  · simp only [decide_eq_true e0, cond_true]
    rfl
  simp only [decide_eq_false e0, cond_false]
  have ga : ok_LB a.b := by unfold ok_LB; omega
  have gc : ok_bCl a.b := by unfold ok_bCl; omega
  have qa : okq_LB a.b := by unfold okq_LB; omega
  have hcl := ct_LB a.b
  have hb1 : a.b.length * 1 ≤ 70368744177664 := by omega
  have hb2 : a.b.length ≤ 70368744177664 := by omega
  have ea : ok_EqAn (a, a) := qa
  have h1 : okh_LB (a.b, 1) := ⟨qa, by dsimp only; omega, by dsimp only; omega⟩
  have hml : (mk_LB a.b 1).length = a.b.length := len_mkLB a.b 1
  have h2 : okh_LB (mk_LB a.b 1, 1) := ⟨by unfold okq_LB; dsimp only; omega, by dsimp only; omega, by dsimp only; rw [ct_mkLB]; omega⟩
  have hy : f_hdLB (mk_LB a.b 1, 1) = 1 + cntL c1_LB (mk_LB a.b 1) := y_hdLB (mk_mkLB a.b 1).symm
  obtain ⟨b, hbe⟩ : ∃ b : An, b = ⟨a.code, a.h, a.r, a.b, 0, 0, 0⟩ := ⟨_, rfl⟩
  have eb : ok_EqAn (b, b) := by subst hbe; exact qa
  have d1 := dm_EqAn eb
  have d2 := iv_EqAn eb
  subst hbe
  dsimp only at d1 d2
  have hk : ¬ (1 + (cntL c1_LB a.b : Int)) < 0 := by omega
  have hcut : cutT 0 a.b.length (atL rowB (mk_LB a.b 1)) = atL rowB (mk_LB a.b 1) := by
    rw [← hml]
    exact cut_all _ _
  have d3 := dm_hdLB h2
  have d4 := iv_hdLB h2
  rw [hml] at d3 d4
  simp only [lt_d, ge0_d, Int.toNat_natCast, blt_d, ble_self, beq_self, decide_true, cond_true, Bool.and_self, Bool.and_true, Bool.true_and, gd_true, Nat.zero_add, List.getD_cons_zero, List.getD_cons_succ, isI_int, toI_int, isB_bool, toB_bool, eL_T, arr_ln, arr_fn, arr_wd, arr_is, arr_get, ble_d, hb1, hb2, dm_toLB ga, iv_toLB ga, cut_all, app0, plain_B, dm_bCl gc, iv_bCl gc, d_bCl, d1, d2, dm_EqAn ea, iv_EqAn ea, d_EqAn, dm_mkLB h1, iv_mkLB h1, d_mkLB, d_ctLB, decide_eq_false hk, len_mkLB, Nat.le_refl, hcut, d3, d4, hy, ct_mkLB, int_self, int_nself, Bool.not_true, cond_false]
  rfl
theorem sd_xBared (a : An) (ha : z_An a) : Sound prog i_xBared [aR a.cs] (erB 1 true).1 (erB 1 true).2 :=
  body_sound (φ := (tabS [(i_szAn, e_szAn), (i_toAn, e_toAn), (i_iBared, e_iBared), (i_sBared, e_sBared), (i_EqAn, e_EqAn), (i_markAn, e_markAn), (i_heldAn, e_heldAn)])) (tabS_cons s_szAn (tabS_cons s_toAn (tabS_cons s_iBared (tabS_cons s_sBared (tabS_cons s_EqAn (tabS_cons s_markAn (tabS_cons s_heldAn tabS_nil))))))) mixed (kp := kp_xBared) (n := 0) func4 (c := bodyOf F_xBared) (by kernel_rfl) (body_xBared a ha 0) (name_ok (by kernel_rfl))
end Go.Mach.F