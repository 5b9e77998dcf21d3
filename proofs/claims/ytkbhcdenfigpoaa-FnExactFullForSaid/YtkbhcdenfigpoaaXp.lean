/- FnExactFullFor. Conditions: none. -/
import Derived.Test.YtkbhcdenfigpoaaSe
import Derived.Test.YtkbhcdenfigpoaaXo
import Derived.Test.YtkbhcdenfigpoaaWx
set_option linter.all false
set_option maxRecDepth 100000
set_option maxHeartbeats 4000000
namespace Go.Mach.F
open Go Go.Mach Go.Proofs.Try
def i_xFullFor : Nat := 7
noncomputable abbrev F_xFullFor : Func := f7
def kp_xFullFor : List (Nat × List Nat) := [(0, [4, 8, 9]), (1, [4, 8, 9, 20]), (2, [4, 8, 9, 20]), (3, [4, 8, 9, 52]), (4, [16]), (5, [4, 8, 9, 24]), (6, [4, 8, 9, 24, 28, 29, 76]), (7, [8, 9, 24, 28, 29, 32, 76]), (8, [8, 9, 28, 29, 76, 100]), (9, [16]), (10, [120]), (11, [16]), (12, [16])]
def ts_xFullFor : List Nat := [0, 0]
def sq_xFullFor_0 (w : Wd) (m : Int) : St := initA 31 0 [aR w.cs, aI m]
def sq_xFullFor_1 (w : Wd) (m : Int) : St := [(4, ⟨z0, [(false, [.tr true (T.int IntKind.i64 m)])]⟩), (8, ⟨z0, [(false, [(C.pt (Pt.ptr 9 0 [] 12 0 0))])]⟩), (9, ⟨z0, [(true, [.tr true (T.int IntKind.i64 w.c.1), .tr true (T.int IntKind.i64 w.c.2), .tr true (T.int IntKind.i64 w.c.3), .tr true (T.int IntKind.i64 w.c.4), .tr true (T.int IntKind.i64 w.c.5), .tr true (T.int IntKind.i64 w.c.6), .tr false (eL 1 rowB w.p.1), .tr false (eL 1 rowI w.p.2), .tr false (eL 1 rowI w.p.3), .tr false (eL 13 Nd.cs w.3), .tr false (eL 5 Ws.cs w.4), .tr false (eL 1 rowI w.5)])]⟩)]
theorem sg_xFullFor_0 (w : Wd) (m : Int) (n : Nat) (K : Ex → St → Res) : atP prog (tabS [(i_SzWd, e_SzWd), (i_ToWd, e_ToWd), (i_sFullFor, e_sFullFor), (i_iFullFor, e_iFullFor), (i_EqWd, e_EqWd)]) kp_xFullFor F_xFullFor [0] n (sq_xFullFor_0 w m) K = (
 K .normal (sq_xFullFor_1 w m)) := by kernel_rfl
def sq_xFullFor_2 (w : Wd) (m : Int) : St := [(4, ⟨z0, [(false, [.tr true (T.int IntKind.i64 m)])]⟩), (8, ⟨z0, [(false, [(C.pt (Pt.ptr 9 0 [] 12 0 0))])]⟩), (9, ⟨z0, [(true, [.tr true (T.int IntKind.i64 w.c.1), .tr true (T.int IntKind.i64 w.c.2), .tr true (T.int IntKind.i64 w.c.3), .tr true (T.int IntKind.i64 w.c.4), .tr true (T.int IntKind.i64 w.c.5), .tr true (T.int IntKind.i64 w.c.6), .tr false (eL 1 rowB w.p.1), .tr false (eL 1 rowI w.p.2), .tr false (eL 1 rowI w.p.3), .tr false (eL 13 Nd.cs w.3), .tr false (eL 5 Ws.cs w.4), .tr false (eL 1 rowI w.5)])]⟩), (20, ⟨z0, [(false, [.tr true (T.int IntKind.i64 1048576)])]⟩)]
theorem sg_xFullFor_1 (w : Wd) (m : Int) (n : Nat) (K : Ex → St → Res) : atP prog (tabS [(i_SzWd, e_SzWd), (i_ToWd, e_ToWd), (i_sFullFor, e_sFullFor), (i_iFullFor, e_iFullFor), (i_EqWd, e_EqWd)]) kp_xFullFor F_xFullFor [1, 0] n (sq_xFullFor_1 w m) K = (
 K .normal (sq_xFullFor_2 w m)) := by kernel_rfl
def sq_xFullFor_3 (w : Wd) (m : Int) (r1 : Int) : St := [(4, ⟨z0, [(false, [.tr true (T.int IntKind.i64 m)])]⟩), (8, ⟨z0, [(false, [(C.pt (Pt.ptr 9 0 [] 12 0 0))])]⟩), (9, ⟨z0, [(true, [.tr true (T.int IntKind.i64 w.c.1), .tr true (T.int IntKind.i64 w.c.2), .tr true (T.int IntKind.i64 w.c.3), .tr true (T.int IntKind.i64 w.c.4), .tr true (T.int IntKind.i64 w.c.5), .tr true (T.int IntKind.i64 w.c.6), .tr false (eL 1 rowB w.p.1), .tr false (eL 1 rowI w.p.2), .tr false (eL 1 rowI w.p.3), .tr false (eL 13 Nd.cs w.3), .tr false (eL 5 Ws.cs w.4), .tr false (eL 1 rowI w.5)])]⟩), (20, ⟨z0, [(false, [.tr true (T.int IntKind.i64 r1)])]⟩)]
theorem sg_xFullFor_2 (w : Wd) (m : Int) (n : Nat) (K : Ex → St → Res) : atP prog (tabS [(i_SzWd, e_SzWd), (i_ToWd, e_ToWd), (i_sFullFor, e_sFullFor), (i_iFullFor, e_iFullFor), (i_EqWd, e_EqWd)]) kp_xFullFor F_xFullFor [1, 1, 0] n (sq_xFullFor_2 w m) K = (
 entK ok_SzWd ea_SzWd (f_SzWd) [(0, true,
    [C.tr false (T.int IntKind.i64 w.c.1), C.tr false (T.int IntKind.i64 w.c.2),
      C.tr false (T.int IntKind.i64 w.c.3), C.tr false (T.int IntKind.i64 w.c.4),
      C.tr false (T.int IntKind.i64 w.c.5), C.tr false (T.int IntKind.i64 w.c.6), C.tr false (eL 1 rowB w.p.1),
      C.tr false (eL 1 rowI w.p.2), C.tr false (eL 1 rowI w.p.3), C.tr false (eL 13 Nd.cs w.3),
      C.tr false (eL 5 Ws.cs w.4), C.tr false (eL 1 rowI w.5)]),
  (0, false, [C.tr false (T.int IntKind.i64 1048576)])] fun (r1 : Int) =>
 K .normal (sq_xFullFor_3 w m r1)) := by kernel_rfl
def sq_xFullFor_4 (w : Wd) (m : Int) : St := [(4, ⟨z0, [(false, [.tr true (T.int IntKind.i64 m)])]⟩), (8, ⟨z0, [(false, [(C.pt (Pt.ptr 9 0 [] 12 0 0))])]⟩), (9, ⟨z0, [(true, [.tr true (T.int IntKind.i64 w.c.1), .tr true (T.int IntKind.i64 w.c.2), .tr true (T.int IntKind.i64 w.c.3), .tr true (T.int IntKind.i64 w.c.4), .tr true (T.int IntKind.i64 w.c.5), .tr true (T.int IntKind.i64 w.c.6), .tr false (eL 1 rowB w.p.1), .tr false (eL 1 rowI w.p.2), .tr false (eL 1 rowI w.p.3), .tr false (eL 13 Nd.cs w.3), .tr false (eL 5 Ws.cs w.4), .tr false (eL 1 rowI w.5)])]⟩), (52, ⟨z0, []⟩)]
theorem sg_xFullFor_3 (w : Wd) (m : Int) (r1 : Int) (n : Nat) (K : Ex → St → Res) : atP prog (tabS [(i_SzWd, e_SzWd), (i_ToWd, e_ToWd), (i_sFullFor, e_sFullFor), (i_iFullFor, e_iFullFor), (i_EqWd, e_EqWd)]) kp_xFullFor F_xFullFor [1, 1, 1, 0] n (sq_xFullFor_3 w m r1) K = (
 bif decide (r1 < 0) then
  K .ret [(16, ⟨z0, [(false, [.tr true (T.bool true)])]⟩)]
 else
 K .normal (sq_xFullFor_4 w m)) := by kernel_rfl
def sq_xFullFor_5 (w : Wd) (m : Int) (r3 : Bool) : St := [(4, ⟨z0, [(false, [.tr true (T.int IntKind.i64 m)])]⟩), (8, ⟨z0, [(false, [(C.pt (Pt.ptr 9 0 [] 12 0 0))])]⟩), (9, ⟨z0, [(true, [.tr true (T.int IntKind.i64 w.c.1), .tr true (T.int IntKind.i64 w.c.2), .tr true (T.int IntKind.i64 w.c.3), .tr true (T.int IntKind.i64 w.c.4), .tr true (T.int IntKind.i64 w.c.5), .tr true (T.int IntKind.i64 w.c.6), .tr false (eL 1 rowB w.p.1), .tr false (eL 1 rowI w.p.2), .tr false (eL 1 rowI w.p.3), .tr false (eL 13 Nd.cs w.3), .tr false (eL 5 Ws.cs w.4), .tr false (eL 1 rowI w.5)])]⟩), (24, ⟨z0, [(false, [.tr true (T.bool !r3)])]⟩)]
theorem sg_xFullFor_4 (w : Wd) (m : Int) (n : Nat) (K : Ex → St → Res) : atP prog (tabS [(i_SzWd, e_SzWd), (i_ToWd, e_ToWd), (i_sFullFor, e_sFullFor), (i_iFullFor, e_iFullFor), (i_EqWd, e_EqWd)]) kp_xFullFor F_xFullFor [1, 1, 1, 1, 0] n (sq_xFullFor_4 w m) K = (
 entK ok_ToWd ea_ToWd (f_ToWd) [(0, true,
    [C.tr false (T.int IntKind.i64 w.c.1), C.tr false (T.int IntKind.i64 w.c.2),
      C.tr false (T.int IntKind.i64 w.c.3), C.tr false (T.int IntKind.i64 w.c.4),
      C.tr false (T.int IntKind.i64 w.c.5), C.tr false (T.int IntKind.i64 w.c.6), C.tr false (eL 1 rowB w.p.1),
      C.tr false (eL 1 rowI w.p.2), C.tr false (eL 1 rowI w.p.3), C.tr false (eL 13 Nd.cs w.3),
      C.tr false (eL 5 Ws.cs w.4), C.tr false (eL 1 rowI w.5)])] fun (r2 : Wd) =>
 gd ((0 + r2.p.1.length).ble r2.p.1.length) <|
 gd ((0 + r2.p.2.length).ble r2.p.2.length) <|
 gd ((0 + r2.p.3.length).ble r2.p.3.length) <|
 gd ((0 + r2.3.length).ble r2.3.length) <|
 gd ((0 + r2.4.length).ble r2.4.length) <|
 gd ((0 + r2.5.length).ble r2.5.length) <|
 entK ok_sFitsMore ea_sFitsMore (f_sFitsMore) [(0, true,
    [C.tr false (T.int IntKind.i64 r2.c.1), C.tr false (T.int IntKind.i64 r2.c.2),
      C.tr false (T.int IntKind.i64 r2.c.3), C.tr false (T.int IntKind.i64 r2.c.4),
      C.tr false (T.int IntKind.i64 r2.c.5), C.tr false (T.int IntKind.i64 r2.c.6),
      C.tr false (T.arr 1 r2.p.1.length (cutT 0 r2.p.1.length (eL 1 rowB r2.p.1).fn)),
      C.tr false (T.arr 1 r2.p.2.length (cutT 0 r2.p.2.length (eL 1 rowI r2.p.2).fn)),
      C.tr false (T.arr 1 r2.p.3.length (cutT 0 r2.p.3.length (eL 1 rowI r2.p.3).fn)),
      C.tr false (T.arr 13 r2.3.length (cutT 0 r2.3.length (eL 13 Nd.cs r2.3).fn)),
      C.tr false (T.arr 5 r2.4.length (cutT 0 r2.4.length (eL 5 Ws.cs r2.4).fn)),
      C.tr false (T.arr 1 r2.5.length (cutT 0 r2.5.length (eL 1 rowI r2.5).fn))]),
  (0, false, [C.tr false (T.int IntKind.i64 m)])] fun (r3 : Bool) =>
 K .normal (sq_xFullFor_5 w m r3)) := by kernel_rfl
def sq_xFullFor_6 (w : Wd) (m : Int) (r3 : Bool) (r4 : Wd) : St := [(4, ⟨z0, [(false, [.tr true (T.int IntKind.i64 m)])]⟩), (8, ⟨z0, [(false, [(C.pt (Pt.ptr 9 0 [] 12 0 0))])]⟩), (9, ⟨z0, [(true, [.tr true (T.int IntKind.i64 w.c.1), .tr true (T.int IntKind.i64 w.c.2), .tr true (T.int IntKind.i64 w.c.3), .tr true (T.int IntKind.i64 w.c.4), .tr true (T.int IntKind.i64 w.c.5), .tr true (T.int IntKind.i64 w.c.6), .tr false (eL 1 rowB w.p.1), .tr false (eL 1 rowI w.p.2), .tr false (eL 1 rowI w.p.3), .tr false (eL 13 Nd.cs w.3), .tr false (eL 5 Ws.cs w.4), .tr false (eL 1 rowI w.5)])]⟩), (24, ⟨z0, [(false, [.tr true (T.bool !r3)])]⟩), (28, ⟨z0, [(false, [(C.pt (Pt.ptr 29 0 [] 12 0 0))])]⟩), (29, ⟨z0, [(true, [.tr true (T.int IntKind.i64 r4.c.1), .tr true (T.int IntKind.i64 r4.c.2), .tr true (T.int IntKind.i64 r4.c.3), .tr true (T.int IntKind.i64 r4.c.4), .tr true (T.int IntKind.i64 r4.c.5), .tr true (T.int IntKind.i64 r4.c.6), .tr true (.arr (1) (r4.p.1.length) ((eL 1 rowB r4.p.1).fn)), .tr true (.arr (1) (r4.p.2.length) ((eL 1 rowI r4.p.2).fn)), .tr true (.arr (1) (r4.p.3.length) ((eL 1 rowI r4.p.3).fn)), .tr true (.arr (13) (r4.3.length) ((eL 13 Nd.cs r4.3).fn)), .tr true (.arr (5) (r4.4.length) ((eL 5 Ws.cs r4.4).fn)), .tr true (.arr (1) (r4.5.length) ((eL 1 rowI r4.5).fn))])]⟩), (76, ⟨z0, [(true, [.tr true (T.int IntKind.i64 r4.c.1), .tr true (T.int IntKind.i64 r4.c.2), .tr true (T.int IntKind.i64 r4.c.3), .tr true (T.int IntKind.i64 r4.c.4), .tr true (T.int IntKind.i64 r4.c.5), .tr true (T.int IntKind.i64 r4.c.6), .tr true (T.hole), .tr true (T.hole), .tr true (T.hole), .tr true (T.hole), .tr true (T.hole), .tr true (T.hole)])]⟩)]
theorem sg_xFullFor_5 (w : Wd) (m : Int) (r3 : Bool) (n : Nat) (K : Ex → St → Res) : atP prog (tabS [(i_SzWd, e_SzWd), (i_ToWd, e_ToWd), (i_sFullFor, e_sFullFor), (i_iFullFor, e_iFullFor), (i_EqWd, e_EqWd)]) kp_xFullFor F_xFullFor [1, 1, 1, 1, 1, 0] n (sq_xFullFor_5 w m r3) K = (
 entK ok_ToWd ea_ToWd (f_ToWd) [(0, true,
    [C.tr false (T.int IntKind.i64 w.c.1), C.tr false (T.int IntKind.i64 w.c.2),
      C.tr false (T.int IntKind.i64 w.c.3), C.tr false (T.int IntKind.i64 w.c.4),
      C.tr false (T.int IntKind.i64 w.c.5), C.tr false (T.int IntKind.i64 w.c.6), C.tr false (eL 1 rowB w.p.1),
      C.tr false (eL 1 rowI w.p.2), C.tr false (eL 1 rowI w.p.3), C.tr false (eL 13 Nd.cs w.3),
      C.tr false (eL 5 Ws.cs w.4), C.tr false (eL 1 rowI w.5)])] fun (r4 : Wd) =>
 gd (r4.p.1.length.ble r4.p.1.length && true) <|
 gd (r4.p.2.length.ble r4.p.2.length && true) <|
 gd (r4.p.3.length.ble r4.p.3.length && true) <|
 gd (r4.3.length.ble r4.3.length && true) <|
 gd (r4.4.length.ble r4.4.length && true) <|
 gd (r4.5.length.ble r4.5.length && true) <|
 K .normal (sq_xFullFor_6 w m r3 r4)) := by kernel_rfl
def sq_xFullFor_7 (w : Wd) (m : Int) (r3 : Bool) (r4 : Wd) (r5 : Bool) : St := [(8, ⟨z0, [(false, [(C.pt (Pt.ptr 9 0 [] 12 0 0))])]⟩), (9, ⟨z0, [(true, [.tr true (T.int IntKind.i64 w.c.1), .tr true (T.int IntKind.i64 w.c.2), .tr true (T.int IntKind.i64 w.c.3), .tr true (T.int IntKind.i64 w.c.4), .tr true (T.int IntKind.i64 w.c.5), .tr true (T.int IntKind.i64 w.c.6), .tr false (eL 1 rowB w.p.1), .tr false (eL 1 rowI w.p.2), .tr false (eL 1 rowI w.p.3), .tr false (eL 13 Nd.cs w.3), .tr false (eL 5 Ws.cs w.4), .tr false (eL 1 rowI w.5)])]⟩), (24, ⟨z0, [(false, [.tr true (T.bool !r3)])]⟩), (28, ⟨z0, [(false, [(C.pt (Pt.ptr 29 0 [] 12 0 0))])]⟩), (29, ⟨z0, [(true, [.tr true (T.int IntKind.i64 r4.c.1), .tr true (T.int IntKind.i64 r4.c.2), .tr true (T.int IntKind.i64 r4.c.3), .tr true (T.int IntKind.i64 r4.c.4), .tr true (T.int IntKind.i64 r4.c.5), .tr true (T.int IntKind.i64 r4.c.6), .tr true (.arr (1) (r4.p.1.length) ((eL 1 rowB r4.p.1).fn)), .tr true (.arr (1) (r4.p.2.length) ((eL 1 rowI r4.p.2).fn)), .tr true (.arr (1) (r4.p.3.length) ((eL 1 rowI r4.p.3).fn)), .tr true (.arr (13) (r4.3.length) ((eL 13 Nd.cs r4.3).fn)), .tr true (.arr (5) (r4.4.length) ((eL 5 Ws.cs r4.4).fn)), .tr true (.arr (1) (r4.5.length) ((eL 1 rowI r4.5).fn))])]⟩), (32, ⟨z0, [(false, [.tr true (T.bool !r5)])]⟩), (76, ⟨z0, [(true, [.tr true (T.int IntKind.i64 r4.c.1), .tr true (T.int IntKind.i64 r4.c.2), .tr true (T.int IntKind.i64 r4.c.3), .tr true (T.int IntKind.i64 r4.c.4), .tr true (T.int IntKind.i64 r4.c.5), .tr true (T.int IntKind.i64 r4.c.6), .tr true (T.hole), .tr true (T.hole), .tr true (T.hole), .tr true (T.hole), .tr true (T.hole), .tr true (T.hole)])]⟩)]
theorem sg_xFullFor_6 (w : Wd) (m : Int) (r3 : Bool) (r4 : Wd) (n : Nat) (K : Ex → St → Res) : atP prog (tabS [(i_SzWd, e_SzWd), (i_ToWd, e_ToWd), (i_sFullFor, e_sFullFor), (i_iFullFor, e_iFullFor), (i_EqWd, e_EqWd)]) kp_xFullFor F_xFullFor [1, 1, 1, 1, 1, 1, 0] n (sq_xFullFor_6 w m r3 r4) K = (
 gd ((0 + r4.p.1.length).ble r4.p.1.length) <|
 gd ((0 + r4.p.2.length).ble r4.p.2.length) <|
 gd ((0 + r4.p.3.length).ble r4.p.3.length) <|
 gd ((0 + r4.3.length).ble r4.3.length) <|
 gd ((0 + r4.4.length).ble r4.4.length) <|
 gd ((0 + r4.5.length).ble r4.5.length) <|
 entK ok_iFitsMore ea_iFitsMore (f_iFitsMore) [(0, true,
    [C.tr false (T.int IntKind.i64 r4.c.1), C.tr false (T.int IntKind.i64 r4.c.2),
      C.tr false (T.int IntKind.i64 r4.c.3), C.tr false (T.int IntKind.i64 r4.c.4),
      C.tr false (T.int IntKind.i64 r4.c.5), C.tr false (T.int IntKind.i64 r4.c.6),
      C.tr false (T.arr 1 r4.p.1.length (cutT 0 r4.p.1.length (eL 1 rowB r4.p.1).fn)),
      C.tr false (T.arr 1 r4.p.2.length (cutT 0 r4.p.2.length (eL 1 rowI r4.p.2).fn)),
      C.tr false (T.arr 1 r4.p.3.length (cutT 0 r4.p.3.length (eL 1 rowI r4.p.3).fn)),
      C.tr false (T.arr 13 r4.3.length (cutT 0 r4.3.length (eL 13 Nd.cs r4.3).fn)),
      C.tr false (T.arr 5 r4.4.length (cutT 0 r4.4.length (eL 5 Ws.cs r4.4).fn)),
      C.tr false (T.arr 1 r4.5.length (cutT 0 r4.5.length (eL 1 rowI r4.5).fn))]),
  (0, false, [C.tr false (T.int IntKind.i64 m)])] fun (r5 : Bool) =>
 K .normal (sq_xFullFor_7 w m r3 r4 r5)) := by kernel_rfl
def sq_xFullFor_8 (w : Wd) (m : Int) (r4 : Wd) : St := [(8, ⟨z0, [(false, [(C.pt (Pt.ptr 9 0 [] 12 0 0))])]⟩), (9, ⟨z0, [(true, [.tr true (T.int IntKind.i64 w.c.1), .tr true (T.int IntKind.i64 w.c.2), .tr true (T.int IntKind.i64 w.c.3), .tr true (T.int IntKind.i64 w.c.4), .tr true (T.int IntKind.i64 w.c.5), .tr true (T.int IntKind.i64 w.c.6), .tr false (eL 1 rowB w.p.1), .tr false (eL 1 rowI w.p.2), .tr false (eL 1 rowI w.p.3), .tr false (eL 13 Nd.cs w.3), .tr false (eL 5 Ws.cs w.4), .tr false (eL 1 rowI w.5)])]⟩), (28, ⟨z0, [(false, [(C.pt (Pt.ptr 29 0 [] 12 0 0))])]⟩), (29, ⟨z0, [(true, [.tr true (T.int IntKind.i64 r4.c.1), .tr true (T.int IntKind.i64 r4.c.2), .tr true (T.int IntKind.i64 r4.c.3), .tr true (T.int IntKind.i64 r4.c.4), .tr true (T.int IntKind.i64 r4.c.5), .tr true (T.int IntKind.i64 r4.c.6), .tr true (.arr (1) (r4.p.1.length) ((eL 1 rowB r4.p.1).fn)), .tr true (.arr (1) (r4.p.2.length) ((eL 1 rowI r4.p.2).fn)), .tr true (.arr (1) (r4.p.3.length) ((eL 1 rowI r4.p.3).fn)), .tr true (.arr (13) (r4.3.length) ((eL 13 Nd.cs r4.3).fn)), .tr true (.arr (5) (r4.4.length) ((eL 5 Ws.cs r4.4).fn)), .tr true (.arr (1) (r4.5.length) ((eL 1 rowI r4.5).fn))])]⟩), (76, ⟨z0, [(true, [.tr true (T.int IntKind.i64 r4.c.1), .tr true (T.int IntKind.i64 r4.c.2), .tr true (T.int IntKind.i64 r4.c.3), .tr true (T.int IntKind.i64 r4.c.4), .tr true (T.int IntKind.i64 r4.c.5), .tr true (T.int IntKind.i64 r4.c.6), .tr true (T.hole), .tr true (T.hole), .tr true (T.hole), .tr true (T.hole), .tr true (T.hole), .tr true (T.hole)])]⟩), (100, ⟨z0, []⟩)]
theorem sg_xFullFor_7 (w : Wd) (m : Int) (r3 : Bool) (r4 : Wd) (r5 : Bool) (n : Nat) (K : Ex → St → Res) : atP prog (tabS [(i_SzWd, e_SzWd), (i_ToWd, e_ToWd), (i_sFullFor, e_sFullFor), (i_iFullFor, e_iFullFor), (i_EqWd, e_EqWd)]) kp_xFullFor F_xFullFor [1, 1, 1, 1, 1, 1, 1, 0] n (sq_xFullFor_7 w m r3 r4 r5) K = (
 bif !(!r5) == !r3 then
  K .ret [(16, ⟨z0, [(false, [.tr true (T.bool false)])]⟩)]
 else
 K .normal (sq_xFullFor_8 w m r4)) := by kernel_rfl
def sq_xFullFor_9 (w : Wd) (m : Int) : St := [(120, ⟨z0, []⟩)]
theorem sg_xFullFor_8 (w : Wd) (m : Int) (r4 : Wd) (n : Nat) (K : Ex → St → Res) : atP prog (tabS [(i_SzWd, e_SzWd), (i_ToWd, e_ToWd), (i_sFullFor, e_sFullFor), (i_iFullFor, e_iFullFor), (i_EqWd, e_EqWd)]) kp_xFullFor F_xFullFor [1, 1, 1, 1, 1, 1, 1, 1, 0] n (sq_xFullFor_8 w m r4) K = (
 entK ok_ToWd ea_ToWd (f_ToWd) [(0, true,
    [C.tr false (T.int IntKind.i64 w.c.1), C.tr false (T.int IntKind.i64 w.c.2),
      C.tr false (T.int IntKind.i64 w.c.3), C.tr false (T.int IntKind.i64 w.c.4),
      C.tr false (T.int IntKind.i64 w.c.5), C.tr false (T.int IntKind.i64 w.c.6), C.tr false (eL 1 rowB w.p.1),
      C.tr false (eL 1 rowI w.p.2), C.tr false (eL 1 rowI w.p.3), C.tr false (eL 13 Nd.cs w.3),
      C.tr false (eL 5 Ws.cs w.4), C.tr false (eL 1 rowI w.5)])] fun (r6 : Wd) =>
 gd ((0 + r4.p.1.length).ble r4.p.1.length) <|
 gd ((0 + r4.p.2.length).ble r4.p.2.length) <|
 gd ((0 + r4.p.3.length).ble r4.p.3.length) <|
 gd ((0 + r4.3.length).ble r4.3.length) <|
 gd ((0 + r4.4.length).ble r4.4.length) <|
 gd ((0 + r4.5.length).ble r4.5.length) <|
 gd ((0 + r6.p.1.length).ble r6.p.1.length) <|
 gd ((0 + r6.p.2.length).ble r6.p.2.length) <|
 gd ((0 + r6.p.3.length).ble r6.p.3.length) <|
 gd ((0 + r6.3.length).ble r6.3.length) <|
 gd ((0 + r6.4.length).ble r6.4.length) <|
 gd ((0 + r6.5.length).ble r6.5.length) <|
 entK ok_EqWd ea_EqWd (f_EqWd) [(0, true,
    [C.tr false (T.int IntKind.i64 r4.c.1), C.tr false (T.int IntKind.i64 r4.c.2),
      C.tr false (T.int IntKind.i64 r4.c.3), C.tr false (T.int IntKind.i64 r4.c.4),
      C.tr false (T.int IntKind.i64 r4.c.5), C.tr false (T.int IntKind.i64 r4.c.6),
      C.tr false (T.arr 1 r4.p.1.length (cutT 0 r4.p.1.length (eL 1 rowB r4.p.1).fn)),
      C.tr false (T.arr 1 r4.p.2.length (cutT 0 r4.p.2.length (eL 1 rowI r4.p.2).fn)),
      C.tr false (T.arr 1 r4.p.3.length (cutT 0 r4.p.3.length (eL 1 rowI r4.p.3).fn)),
      C.tr false (T.arr 13 r4.3.length (cutT 0 r4.3.length (eL 13 Nd.cs r4.3).fn)),
      C.tr false (T.arr 5 r4.4.length (cutT 0 r4.4.length (eL 5 Ws.cs r4.4).fn)),
      C.tr false (T.arr 1 r4.5.length (cutT 0 r4.5.length (eL 1 rowI r4.5).fn))]),
  (0, true,
    [C.tr false (T.int IntKind.i64 r6.c.1), C.tr false (T.int IntKind.i64 r6.c.2),
      C.tr false (T.int IntKind.i64 r6.c.3), C.tr false (T.int IntKind.i64 r6.c.4),
      C.tr false (T.int IntKind.i64 r6.c.5), C.tr false (T.int IntKind.i64 r6.c.6),
      C.tr false (T.arr 1 r6.p.1.length (cutT 0 r6.p.1.length (eL 1 rowB r6.p.1).fn)),
      C.tr false (T.arr 1 r6.p.2.length (cutT 0 r6.p.2.length (eL 1 rowI r6.p.2).fn)),
      C.tr false (T.arr 1 r6.p.3.length (cutT 0 r6.p.3.length (eL 1 rowI r6.p.3).fn)),
      C.tr false (T.arr 13 r6.3.length (cutT 0 r6.3.length (eL 13 Nd.cs r6.3).fn)),
      C.tr false (T.arr 5 r6.4.length (cutT 0 r6.4.length (eL 5 Ws.cs r6.4).fn)),
      C.tr false (T.arr 1 r6.5.length (cutT 0 r6.5.length (eL 1 rowI r6.5).fn))])] fun (r7 : Bool) =>
 bif !r7 then
  K .ret [(16, ⟨z0, [(false, [.tr true (T.bool false)])]⟩)]
 else
 K .normal (sq_xFullFor_9 w m)) := by kernel_rfl
def sq_xFullFor_10 (w : Wd) (m : Int) : St := [(16, ⟨z0, [(false, [.tr true (T.bool true)])]⟩)]
theorem sg_xFullFor_9 (w : Wd) (m : Int) (n : Nat) (K : Ex → St → Res) : atP prog (tabS [(i_SzWd, e_SzWd), (i_ToWd, e_ToWd), (i_sFullFor, e_sFullFor), (i_iFullFor, e_iFullFor), (i_EqWd, e_EqWd)]) kp_xFullFor F_xFullFor [1, 1, 1, 1, 1, 1, 1, 1, 1, 0] n (sq_xFullFor_9 w m) K = (
 K .normal (sq_xFullFor_10 w m)) := by kernel_rfl
theorem sg_xFullFor_10 (w : Wd) (m : Int) (n : Nat) (K : Ex → St → Res) : atP prog (tabS [(i_SzWd, e_SzWd), (i_ToWd, e_ToWd), (i_sFullFor, e_sFullFor), (i_iFullFor, e_iFullFor), (i_EqWd, e_EqWd)]) kp_xFullFor F_xFullFor [1, 1, 1, 1, 1, 1, 1, 1, 1, 1] n (sq_xFullFor_10 w m) K = (
 K .ret [(16, ⟨z0, [(false, [.tr true (T.bool true)])]⟩)]) := by kernel_rfl
theorem body_xFullFor (w : Wd) (m : Int) (hw : z_Wd w) (hm : (Lit.int .i64 m).wf = true) (hu : upI w.l) (n : Nat) : body prog (tabS [(i_SzWd, e_SzWd), (i_ToWd, e_ToWd), (i_sFullFor, e_sFullFor), (i_iFullFor, e_iFullFor), (i_EqWd, e_EqWd)]) kp_xFullFor n F_xFullFor [aR w.cs, aI m] = some (erB 2 true) := by
  have hzm := zm
  have hlm := lm
  have hbm := bm
  rw [body_at _ _ _ _ _ _ (by kernel_rfl), show initA F_xFullFor.ntmps 0 [aR w.cs, aI m] = sq_xFullFor_0 w m from by kernel_rfl]
  have y0 : ok_SzWd (w, 1048576) := ⟨hw, by dsimp only; omega, by dsimp only; omega⟩
  by_cases e0 : (n_Wd w : Int) ≤ 1048576
  case neg =>
    rw [atP_seq (p := []) (q0 := [0]) (q1 := [1]) (by kernel_rfl) rfl rfl]
    rw [sg_xFullFor_0]
    simp only [lt_d, ge0_d, Int.toNat_natCast, blt_d, ble_self, beq_self, decide_true, cond_true, Bool.and_self, Bool.and_true, Bool.true_and, gd_true, Nat.zero_add, List.getD_cons_zero, List.getD_cons_succ, isI_int, toI_int, isB_bool, toB_bool, eL_T, arr_ln, arr_fn, arr_wd, arr_is, arr_get, eL_T, arr_fn, cut_all, bool_self, bool_nself, int_self, int_nself, Bool.not_true, Bool.not_false, cond_false, cond_true, nextP_n, nextP_r, Wd.cs, entK_of (dm_SzWd y0) (iv_SzWd y0), n_SzWd e0, decide_eq_true (show (-1 : Int) < 0 by omega)]
    rw [atP_seq (p := [1]) (q0 := [1, 0]) (q1 := [1, 1]) (by kernel_rfl) rfl rfl]
    rw [sg_xFullFor_1]
    simp only [lt_d, ge0_d, Int.toNat_natCast, blt_d, ble_self, beq_self, decide_true, cond_true, Bool.and_self, Bool.and_true, Bool.true_and, gd_true, Nat.zero_add, List.getD_cons_zero, List.getD_cons_succ, isI_int, toI_int, isB_bool, toB_bool, eL_T, arr_ln, arr_fn, arr_wd, arr_is, arr_get, eL_T, arr_fn, cut_all, bool_self, bool_nself, int_self, int_nself, Bool.not_true, Bool.not_false, cond_false, cond_true, nextP_n, nextP_r, Wd.cs, entK_of (dm_SzWd y0) (iv_SzWd y0), n_SzWd e0, decide_eq_true (show (-1 : Int) < 0 by omega)]
    rw [atP_seq (p := [1, 1]) (q0 := [1, 1, 0]) (q1 := [1, 1, 1]) (by kernel_rfl) rfl rfl]
    rw [sg_xFullFor_2]
    simp only [lt_d, ge0_d, Int.toNat_natCast, blt_d, ble_self, beq_self, decide_true, cond_true, Bool.and_self, Bool.and_true, Bool.true_and, gd_true, Nat.zero_add, List.getD_cons_zero, List.getD_cons_succ, isI_int, toI_int, isB_bool, toB_bool, eL_T, arr_ln, arr_fn, arr_wd, arr_is, arr_get, eL_T, arr_fn, cut_all, bool_self, bool_nself, int_self, int_nself, Bool.not_true, Bool.not_false, cond_false, cond_true, nextP_n, nextP_r, Wd.cs, entK_of (dm_SzWd y0) (iv_SzWd y0), n_SzWd e0, decide_eq_true (show (-1 : Int) < 0 by omega)]
    rw [atP_seq (p := [1, 1, 1]) (q0 := [1, 1, 1, 0]) (q1 := [1, 1, 1, 1]) (by kernel_rfl) rfl rfl]
    rw [sg_xFullFor_3]
    simp only [lt_d, ge0_d, Int.toNat_natCast, blt_d, ble_self, beq_self, decide_true, cond_true, Bool.and_self, Bool.and_true, Bool.true_and, gd_true, Nat.zero_add, List.getD_cons_zero, List.getD_cons_succ, isI_int, toI_int, isB_bool, toB_bool, eL_T, arr_ln, arr_fn, arr_wd, arr_is, arr_get, eL_T, arr_fn, cut_all, bool_self, bool_nself, int_self, int_nself, Bool.not_true, Bool.not_false, cond_false, cond_true, nextP_n, nextP_r, Wd.cs, entK_of (dm_SzWd y0) (iv_SzWd y0), n_SzWd e0, decide_eq_true (show (-1 : Int) < 0 by omega)]
    rfl
  have f0 : ¬ 1048576 - (n_Wd w : Int) < 0 := by omega
  obtain ⟨g0, q0⟩ := okn_Wd (l := w) (by omega)
  have c0 : ok_sFitsMore (w, m) := ⟨g0.2.2.2.1.1, hu, g0.2.1, g0.2.2.1⟩
  have c1 : ok_iFitsMore (w, m) := ⟨g0.2.2.2.1.1, hu, g0.2.1, g0.2.2.1⟩
  have c2 : ok_EqWd (w, w) := q0
  rw [atP_seq (p := []) (q0 := [0]) (q1 := [1]) (by kernel_rfl) rfl rfl]
  rw [sg_xFullFor_0]
  simp only [lt_d, ge0_d, Int.toNat_natCast, blt_d, ble_self, beq_self, decide_true, cond_true, Bool.and_self, Bool.and_true, Bool.true_and, gd_true, Nat.zero_add, List.getD_cons_zero, List.getD_cons_succ, isI_int, toI_int, isB_bool, toB_bool, eL_T, arr_ln, arr_fn, arr_wd, arr_is, arr_get, eL_T, arr_fn, cut_all, bool_self, bool_nself, int_self, int_nself, Bool.not_true, Bool.not_false, cond_false, cond_true, nextP_n, nextP_r, Wd.cs, entK_of (dm_SzWd y0) (iv_SzWd y0), y_SzWd e0, decide_eq_false f0, entK_of (dm_ToWd g0) (iv_ToWd g0), d_ToWd, entK_of (dm_sFitsMore c0) (iv_sFitsMore c0), d_sFitsMore, entK_of (dm_iFitsMore c1) (iv_iFitsMore c1), d_iFitsMore, entK_of (dm_EqWd c2) (iv_EqWd c2), d_EqWd]
  rw [atP_seq (p := [1]) (q0 := [1, 0]) (q1 := [1, 1]) (by kernel_rfl) rfl rfl]
  rw [sg_xFullFor_1]
  simp only [lt_d, ge0_d, Int.toNat_natCast, blt_d, ble_self, beq_self, decide_true, cond_true, Bool.and_self, Bool.and_true, Bool.true_and, gd_true, Nat.zero_add, List.getD_cons_zero, List.getD_cons_succ, isI_int, toI_int, isB_bool, toB_bool, eL_T, arr_ln, arr_fn, arr_wd, arr_is, arr_get, eL_T, arr_fn, cut_all, bool_self, bool_nself, int_self, int_nself, Bool.not_true, Bool.not_false, cond_false, cond_true, nextP_n, nextP_r, Wd.cs, entK_of (dm_SzWd y0) (iv_SzWd y0), y_SzWd e0, decide_eq_false f0, entK_of (dm_ToWd g0) (iv_ToWd g0), d_ToWd, entK_of (dm_sFitsMore c0) (iv_sFitsMore c0), d_sFitsMore, entK_of (dm_iFitsMore c1) (iv_iFitsMore c1), d_iFitsMore, entK_of (dm_EqWd c2) (iv_EqWd c2), d_EqWd]
  rw [atP_seq (p := [1, 1]) (q0 := [1, 1, 0]) (q1 := [1, 1, 1]) (by kernel_rfl) rfl rfl]
  rw [sg_xFullFor_2]
  simp only [lt_d, ge0_d, Int.toNat_natCast, blt_d, ble_self, beq_self, decide_true, cond_true, Bool.and_self, Bool.and_true, Bool.true_and, gd_true, Nat.zero_add, List.getD_cons_zero, List.getD_cons_succ, isI_int, toI_int, isB_bool, toB_bool, eL_T, arr_ln, arr_fn, arr_wd, arr_is, arr_get, eL_T, arr_fn, cut_all, bool_self, bool_nself, int_self, int_nself, Bool.not_true, Bool.not_false, cond_false, cond_true, nextP_n, nextP_r, Wd.cs, entK_of (dm_SzWd y0) (iv_SzWd y0), y_SzWd e0, decide_eq_false f0, entK_of (dm_ToWd g0) (iv_ToWd g0), d_ToWd, entK_of (dm_sFitsMore c0) (iv_sFitsMore c0), d_sFitsMore, entK_of (dm_iFitsMore c1) (iv_iFitsMore c1), d_iFitsMore, entK_of (dm_EqWd c2) (iv_EqWd c2), d_EqWd]
  rw [atP_seq (p := [1, 1, 1]) (q0 := [1, 1, 1, 0]) (q1 := [1, 1, 1, 1]) (by kernel_rfl) rfl rfl]
  rw [sg_xFullFor_3]
  simp only [lt_d, ge0_d, Int.toNat_natCast, blt_d, ble_self, beq_self, decide_true, cond_true, Bool.and_self, Bool.and_true, Bool.true_and, gd_true, Nat.zero_add, List.getD_cons_zero, List.getD_cons_succ, isI_int, toI_int, isB_bool, toB_bool, eL_T, arr_ln, arr_fn, arr_wd, arr_is, arr_get, eL_T, arr_fn, cut_all, bool_self, bool_nself, int_self, int_nself, Bool.not_true, Bool.not_false, cond_false, cond_true, nextP_n, nextP_r, Wd.cs, entK_of (dm_SzWd y0) (iv_SzWd y0), y_SzWd e0, decide_eq_false f0, entK_of (dm_ToWd g0) (iv_ToWd g0), d_ToWd, entK_of (dm_sFitsMore c0) (iv_sFitsMore c0), d_sFitsMore, entK_of (dm_iFitsMore c1) (iv_iFitsMore c1), d_iFitsMore, entK_of (dm_EqWd c2) (iv_EqWd c2), d_EqWd]
  rw [atP_seq (p := [1, 1, 1, 1]) (q0 := [1, 1, 1, 1, 0]) (q1 := [1, 1, 1, 1, 1]) (by kernel_rfl) rfl rfl]
  rw [sg_xFullFor_4]
  simp only [lt_d, ge0_d, Int.toNat_natCast, blt_d, ble_self, beq_self, decide_true, cond_true, Bool.and_self, Bool.and_true, Bool.true_and, gd_true, Nat.zero_add, List.getD_cons_zero, List.getD_cons_succ, isI_int, toI_int, isB_bool, toB_bool, eL_T, arr_ln, arr_fn, arr_wd, arr_is, arr_get, eL_T, arr_fn, cut_all, bool_self, bool_nself, int_self, int_nself, Bool.not_true, Bool.not_false, cond_false, cond_true, nextP_n, nextP_r, Wd.cs, entK_of (dm_SzWd y0) (iv_SzWd y0), y_SzWd e0, decide_eq_false f0, entK_of (dm_ToWd g0) (iv_ToWd g0), d_ToWd, entK_of (dm_sFitsMore c0) (iv_sFitsMore c0), d_sFitsMore, entK_of (dm_iFitsMore c1) (iv_iFitsMore c1), d_iFitsMore, entK_of (dm_EqWd c2) (iv_EqWd c2), d_EqWd]
  rw [atP_seq (p := [1, 1, 1, 1, 1]) (q0 := [1, 1, 1, 1, 1, 0]) (q1 := [1, 1, 1, 1, 1, 1]) (by kernel_rfl) rfl rfl]
  rw [sg_xFullFor_5]
  simp only [lt_d, ge0_d, Int.toNat_natCast, blt_d, ble_self, beq_self, decide_true, cond_true, Bool.and_self, Bool.and_true, Bool.true_and, gd_true, Nat.zero_add, List.getD_cons_zero, List.getD_cons_succ, isI_int, toI_int, isB_bool, toB_bool, eL_T, arr_ln, arr_fn, arr_wd, arr_is, arr_get, eL_T, arr_fn, cut_all, bool_self, bool_nself, int_self, int_nself, Bool.not_true, Bool.not_false, cond_false, cond_true, nextP_n, nextP_r, Wd.cs, entK_of (dm_SzWd y0) (iv_SzWd y0), y_SzWd e0, decide_eq_false f0, entK_of (dm_ToWd g0) (iv_ToWd g0), d_ToWd, entK_of (dm_sFitsMore c0) (iv_sFitsMore c0), d_sFitsMore, entK_of (dm_iFitsMore c1) (iv_iFitsMore c1), d_iFitsMore, entK_of (dm_EqWd c2) (iv_EqWd c2), d_EqWd]
  rw [atP_seq (p := [1, 1, 1, 1, 1, 1]) (q0 := [1, 1, 1, 1, 1, 1, 0]) (q1 := [1, 1, 1, 1, 1, 1, 1]) (by kernel_rfl) rfl rfl]
  rw [sg_xFullFor_6]
  simp only [lt_d, ge0_d, Int.toNat_natCast, blt_d, ble_self, beq_self, decide_true, cond_true, Bool.and_self, Bool.and_true, Bool.true_and, gd_true, Nat.zero_add, List.getD_cons_zero, List.getD_cons_succ, isI_int, toI_int, isB_bool, toB_bool, eL_T, arr_ln, arr_fn, arr_wd, arr_is, arr_get, eL_T, arr_fn, cut_all, bool_self, bool_nself, int_self, int_nself, Bool.not_true, Bool.not_false, cond_false, cond_true, nextP_n, nextP_r, Wd.cs, entK_of (dm_SzWd y0) (iv_SzWd y0), y_SzWd e0, decide_eq_false f0, entK_of (dm_ToWd g0) (iv_ToWd g0), d_ToWd, entK_of (dm_sFitsMore c0) (iv_sFitsMore c0), d_sFitsMore, entK_of (dm_iFitsMore c1) (iv_iFitsMore c1), d_iFitsMore, entK_of (dm_EqWd c2) (iv_EqWd c2), d_EqWd]
  rw [atP_seq (p := [1, 1, 1, 1, 1, 1, 1]) (q0 := [1, 1, 1, 1, 1, 1, 1, 0]) (q1 := [1, 1, 1, 1, 1, 1, 1, 1]) (by kernel_rfl) rfl rfl]
  rw [sg_xFullFor_7]
  simp only [lt_d, ge0_d, Int.toNat_natCast, blt_d, ble_self, beq_self, decide_true, cond_true, Bool.and_self, Bool.and_true, Bool.true_and, gd_true, Nat.zero_add, List.getD_cons_zero, List.getD_cons_succ, isI_int, toI_int, isB_bool, toB_bool, eL_T, arr_ln, arr_fn, arr_wd, arr_is, arr_get, eL_T, arr_fn, cut_all, bool_self, bool_nself, int_self, int_nself, Bool.not_true, Bool.not_false, cond_false, cond_true, nextP_n, nextP_r, Wd.cs, entK_of (dm_SzWd y0) (iv_SzWd y0), y_SzWd e0, decide_eq_false f0, entK_of (dm_ToWd g0) (iv_ToWd g0), d_ToWd, entK_of (dm_sFitsMore c0) (iv_sFitsMore c0), d_sFitsMore, entK_of (dm_iFitsMore c1) (iv_iFitsMore c1), d_iFitsMore, entK_of (dm_EqWd c2) (iv_EqWd c2), d_EqWd]
  rw [atP_seq (p := [1, 1, 1, 1, 1, 1, 1, 1]) (q0 := [1, 1, 1, 1, 1, 1, 1, 1, 0]) (q1 := [1, 1, 1, 1, 1, 1, 1, 1, 1]) (by kernel_rfl) rfl rfl]
  rw [sg_xFullFor_8]
  simp only [lt_d, ge0_d, Int.toNat_natCast, blt_d, ble_self, beq_self, decide_true, cond_true, Bool.and_self, Bool.and_true, Bool.true_and, gd_true, Nat.zero_add, List.getD_cons_zero, List.getD_cons_succ, isI_int, toI_int, isB_bool, toB_bool, eL_T, arr_ln, arr_fn, arr_wd, arr_is, arr_get, eL_T, arr_fn, cut_all, bool_self, bool_nself, int_self, int_nself, Bool.not_true, Bool.not_false, cond_false, cond_true, nextP_n, nextP_r, Wd.cs, entK_of (dm_SzWd y0) (iv_SzWd y0), y_SzWd e0, decide_eq_false f0, entK_of (dm_ToWd g0) (iv_ToWd g0), d_ToWd, entK_of (dm_sFitsMore c0) (iv_sFitsMore c0), d_sFitsMore, entK_of (dm_iFitsMore c1) (iv_iFitsMore c1), d_iFitsMore, entK_of (dm_EqWd c2) (iv_EqWd c2), d_EqWd]
  rw [atP_seq (p := [1, 1, 1, 1, 1, 1, 1, 1, 1]) (q0 := [1, 1, 1, 1, 1, 1, 1, 1, 1, 0]) (q1 := [1, 1, 1, 1, 1, 1, 1, 1, 1, 1]) (by kernel_rfl) rfl rfl]
  rw [sg_xFullFor_9]
  simp only [lt_d, ge0_d, Int.toNat_natCast, blt_d, ble_self, beq_self, decide_true, cond_true, Bool.and_self, Bool.and_true, Bool.true_and, gd_true, Nat.zero_add, List.getD_cons_zero, List.getD_cons_succ, isI_int, toI_int, isB_bool, toB_bool, eL_T, arr_ln, arr_fn, arr_wd, arr_is, arr_get, eL_T, arr_fn, cut_all, bool_self, bool_nself, int_self, int_nself, Bool.not_true, Bool.not_false, cond_false, cond_true, nextP_n, nextP_r, Wd.cs, entK_of (dm_SzWd y0) (iv_SzWd y0), y_SzWd e0, decide_eq_false f0, entK_of (dm_ToWd g0) (iv_ToWd g0), d_ToWd, entK_of (dm_sFitsMore c0) (iv_sFitsMore c0), d_sFitsMore, entK_of (dm_iFitsMore c1) (iv_iFitsMore c1), d_iFitsMore, entK_of (dm_EqWd c2) (iv_EqWd c2), d_EqWd]
  rw [sg_xFullFor_10]
  try simp only [lt_d, ge0_d, Int.toNat_natCast, blt_d, ble_self, beq_self, decide_true, cond_true, Bool.and_self, Bool.and_true, Bool.true_and, gd_true, Nat.zero_add, List.getD_cons_zero, List.getD_cons_succ, isI_int, toI_int, isB_bool, toB_bool, eL_T, arr_ln, arr_fn, arr_wd, arr_is, arr_get, eL_T, arr_fn, cut_all, bool_self, bool_nself, int_self, int_nself, Bool.not_true, Bool.not_false, cond_false, cond_true, nextP_n, nextP_r, Wd.cs, entK_of (dm_SzWd y0) (iv_SzWd y0), y_SzWd e0, decide_eq_false f0, entK_of (dm_ToWd g0) (iv_ToWd g0), d_ToWd, entK_of (dm_sFitsMore c0) (iv_sFitsMore c0), d_sFitsMore, entK_of (dm_iFitsMore c1) (iv_iFitsMore c1), d_iFitsMore, entK_of (dm_EqWd c2) (iv_EqWd c2), d_EqWd]
  rfl
theorem sd_xFullFor (w : Wd) (m : Int) (hw : z_Wd w) (hm : (Lit.int .i64 m).wf = true) (hu : upI w.l) : Sound prog i_xFullFor [aR w.cs, aI m] (erB 2 true).1 (erB 2 true).2 :=
  body_sound (φ := (tabS [(i_SzWd, e_SzWd), (i_ToWd, e_ToWd), (i_sFullFor, e_sFullFor), (i_iFullFor, e_iFullFor), (i_EqWd, e_EqWd)])) (tabS_cons s_SzWd (tabS_cons s_ToWd (tabS_cons s_sFullFor (tabS_cons s_iFullFor (tabS_cons s_EqWd tabS_nil))))) mixed (kp := kp_xFullFor) (n := 0) func7 (c := bodyOf F_xFullFor) (by kernel_rfl) (body_xFullFor w m hw hm hu 0) (name_ok (by kernel_rfl))
end Go.Mach.F