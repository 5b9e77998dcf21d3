/- FnExactReused. Conditions: none. -/
import Derived.Test.YtkbhcdenfigpoaaSe
import Derived.Test.YtkbhcdenfigpoaaWb
import Derived.Test.YtkbhcdenfigpoaaWx
set_option linter.all false
set_option maxRecDepth 100000
set_option maxHeartbeats 4000000
namespace Go.Mach.F
open Go Go.Mach Go.Proofs.Try
def i_xReused : Nat := 3
noncomputable abbrev F_xReused : Func := f3
def kp_xReused : List (Nat × List Nat) := [(0, [8, 9, 12, 13]), (1, [8, 9, 12, 13, 20]), (2, [8, 9, 12, 13, 20]), (3, [8, 9, 12, 13, 20, 56]), (4, [16]), (5, [8, 9, 12, 13, 20]), (6, [8, 9, 12, 13, 76]), (7, [16]), (8, [8, 9, 12, 13, 24]), (9, [8, 9, 12, 13, 24, 28, 29, 104]), (10, [8, 9, 12, 13, 24, 28, 29, 32, 33, 104, 112]), (11, [8, 9, 12, 13, 24, 28, 29, 32, 33, 36, 104, 112]), (12, [8, 9, 12, 13, 28, 29, 32, 33, 104, 112, 136]), (13, [16]), (14, [12, 13, 32, 33, 112, 156]), (15, [16]), (16, [176]), (17, [16]), (18, [16])]
def ts_xReused : List Nat := [0, 0]
def sq_xReused_0 (a : Wd) (b : Wd) : St := initA 45 0 [aR a.cs, aR b.cs]
def sq_xReused_1 (a : Wd) (b : Wd) : St := [(8, ⟨z0, [(false, [(C.pt (Pt.ptr 9 0 [] 12 0 0))])]⟩), (9, ⟨z0, [(true, [.tr true (T.int IntKind.i64 a.c.1), .tr true (T.int IntKind.i64 a.c.2), .tr true (T.int IntKind.i64 a.c.3), .tr true (T.int IntKind.i64 a.c.4), .tr true (T.int IntKind.i64 a.c.5), .tr true (T.int IntKind.i64 a.c.6), .tr false (eL 1 rowB a.p.1), .tr false (eL 1 rowI a.p.2), .tr false (eL 1 rowI a.p.3), .tr false (eL 13 Nd.cs a.3), .tr false (eL 5 Ws.cs a.4), .tr false (eL 1 rowI a.5)])]⟩), (12, ⟨z0, [(false, [(C.pt (Pt.ptr 13 0 [] 12 0 0))])]⟩), (13, ⟨z0, [(true, [.tr true (T.int IntKind.i64 b.c.1), .tr true (T.int IntKind.i64 b.c.2), .tr true (T.int IntKind.i64 b.c.3), .tr true (T.int IntKind.i64 b.c.4), .tr true (T.int IntKind.i64 b.c.5), .tr true (T.int IntKind.i64 b.c.6), .tr false (eL 1 rowB b.p.1), .tr false (eL 1 rowI b.p.2), .tr false (eL 1 rowI b.p.3), .tr false (eL 13 Nd.cs b.3), .tr false (eL 5 Ws.cs b.4), .tr false (eL 1 rowI b.5)])]⟩)]
theorem sg_xReused_0 (a : Wd) (b : Wd) (n : Nat) (K : Ex → St → Res) : atP prog (tabS [(i_SzWd, e_SzWd), (i_ToWd, e_ToWd), (i_sReused, e_sReused), (i_iReused, e_iReused), (i_EqWd, e_EqWd)]) kp_xReused F_xReused [0] n (sq_xReused_0 a b) K = (
 K .normal (sq_xReused_1 a b)) := by kernel_rfl
def sq_xReused_2 (a : Wd) (b : Wd) : St := [(8, ⟨z0, [(false, [(C.pt (Pt.ptr 9 0 [] 12 0 0))])]⟩), (9, ⟨z0, [(true, [.tr true (T.int IntKind.i64 a.c.1), .tr true (T.int IntKind.i64 a.c.2), .tr true (T.int IntKind.i64 a.c.3), .tr true (T.int IntKind.i64 a.c.4), .tr true (T.int IntKind.i64 a.c.5), .tr true (T.int IntKind.i64 a.c.6), .tr false (eL 1 rowB a.p.1), .tr false (eL 1 rowI a.p.2), .tr false (eL 1 rowI a.p.3), .tr false (eL 13 Nd.cs a.3), .tr false (eL 5 Ws.cs a.4), .tr false (eL 1 rowI a.5)])]⟩), (12, ⟨z0, [(false, [(C.pt (Pt.ptr 13 0 [] 12 0 0))])]⟩), (13, ⟨z0, [(true, [.tr true (T.int IntKind.i64 b.c.1), .tr true (T.int IntKind.i64 b.c.2), .tr true (T.int IntKind.i64 b.c.3), .tr true (T.int IntKind.i64 b.c.4), .tr true (T.int IntKind.i64 b.c.5), .tr true (T.int IntKind.i64 b.c.6), .tr false (eL 1 rowB b.p.1), .tr false (eL 1 rowI b.p.2), .tr false (eL 1 rowI b.p.3), .tr false (eL 13 Nd.cs b.3), .tr false (eL 5 Ws.cs b.4), .tr false (eL 1 rowI b.5)])]⟩), (20, ⟨z0, [(false, [.tr true (T.int IntKind.i64 1048576)])]⟩)]
theorem sg_xReused_1 (a : Wd) (b : Wd) (n : Nat) (K : Ex → St → Res) : atP prog (tabS [(i_SzWd, e_SzWd), (i_ToWd, e_ToWd), (i_sReused, e_sReused), (i_iReused, e_iReused), (i_EqWd, e_EqWd)]) kp_xReused F_xReused [1, 0] n (sq_xReused_1 a b) K = (
 K .normal (sq_xReused_2 a b)) := by kernel_rfl
def sq_xReused_3 (a : Wd) (b : Wd) (r1 : Int) : St := [(8, ⟨z0, [(false, [(C.pt (Pt.ptr 9 0 [] 12 0 0))])]⟩), (9, ⟨z0, [(true, [.tr true (T.int IntKind.i64 a.c.1), .tr true (T.int IntKind.i64 a.c.2), .tr true (T.int IntKind.i64 a.c.3), .tr true (T.int IntKind.i64 a.c.4), .tr true (T.int IntKind.i64 a.c.5), .tr true (T.int IntKind.i64 a.c.6), .tr false (eL 1 rowB a.p.1), .tr false (eL 1 rowI a.p.2), .tr false (eL 1 rowI a.p.3), .tr false (eL 13 Nd.cs a.3), .tr false (eL 5 Ws.cs a.4), .tr false (eL 1 rowI a.5)])]⟩), (12, ⟨z0, [(false, [(C.pt (Pt.ptr 13 0 [] 12 0 0))])]⟩), (13, ⟨z0, [(true, [.tr true (T.int IntKind.i64 b.c.1), .tr true (T.int IntKind.i64 b.c.2), .tr true (T.int IntKind.i64 b.c.3), .tr true (T.int IntKind.i64 b.c.4), .tr true (T.int IntKind.i64 b.c.5), .tr true (T.int IntKind.i64 b.c.6), .tr false (eL 1 rowB b.p.1), .tr false (eL 1 rowI b.p.2), .tr false (eL 1 rowI b.p.3), .tr false (eL 13 Nd.cs b.3), .tr false (eL 5 Ws.cs b.4), .tr false (eL 1 rowI b.5)])]⟩), (20, ⟨z0, [(false, [.tr true (T.int IntKind.i64 r1)])]⟩)]
theorem sg_xReused_2 (a : Wd) (b : Wd) (n : Nat) (K : Ex → St → Res) : atP prog (tabS [(i_SzWd, e_SzWd), (i_ToWd, e_ToWd), (i_sReused, e_sReused), (i_iReused, e_iReused), (i_EqWd, e_EqWd)]) kp_xReused F_xReused [1, 1, 0] n (sq_xReused_2 a b) K = (
 entK ok_SzWd ea_SzWd (f_SzWd) [(0, true,
    [C.tr false (T.int IntKind.i64 a.c.1), C.tr false (T.int IntKind.i64 a.c.2),
      C.tr false (T.int IntKind.i64 a.c.3), C.tr false (T.int IntKind.i64 a.c.4),
      C.tr false (T.int IntKind.i64 a.c.5), C.tr false (T.int IntKind.i64 a.c.6), C.tr false (eL 1 rowB a.p.1),
      C.tr false (eL 1 rowI a.p.2), C.tr false (eL 1 rowI a.p.3), C.tr false (eL 13 Nd.cs a.3),
      C.tr false (eL 5 Ws.cs a.4), C.tr false (eL 1 rowI a.5)]),
  (0, false, [C.tr false (T.int IntKind.i64 1048576)])] fun (r1 : Int) =>
 K .normal (sq_xReused_3 a b r1)) := by kernel_rfl
def sq_xReused_4 (a : Wd) (b : Wd) (r1 : Int) : St := [(8, ⟨z0, [(false, [(C.pt (Pt.ptr 9 0 [] 12 0 0))])]⟩), (9, ⟨z0, [(true, [.tr true (T.int IntKind.i64 a.c.1), .tr true (T.int IntKind.i64 a.c.2), .tr true (T.int IntKind.i64 a.c.3), .tr true (T.int IntKind.i64 a.c.4), .tr true (T.int IntKind.i64 a.c.5), .tr true (T.int IntKind.i64 a.c.6), .tr false (eL 1 rowB a.p.1), .tr false (eL 1 rowI a.p.2), .tr false (eL 1 rowI a.p.3), .tr false (eL 13 Nd.cs a.3), .tr false (eL 5 Ws.cs a.4), .tr false (eL 1 rowI a.5)])]⟩), (12, ⟨z0, [(false, [(C.pt (Pt.ptr 13 0 [] 12 0 0))])]⟩), (13, ⟨z0, [(true, [.tr true (T.int IntKind.i64 b.c.1), .tr true (T.int IntKind.i64 b.c.2), .tr true (T.int IntKind.i64 b.c.3), .tr true (T.int IntKind.i64 b.c.4), .tr true (T.int IntKind.i64 b.c.5), .tr true (T.int IntKind.i64 b.c.6), .tr false (eL 1 rowB b.p.1), .tr false (eL 1 rowI b.p.2), .tr false (eL 1 rowI b.p.3), .tr false (eL 13 Nd.cs b.3), .tr false (eL 5 Ws.cs b.4), .tr false (eL 1 rowI b.5)])]⟩), (20, ⟨z0, [(false, [.tr true (T.int IntKind.i64 r1)])]⟩), (56, ⟨z0, []⟩)]
theorem sg_xReused_3 (a : Wd) (b : Wd) (r1 : Int) (n : Nat) (K : Ex → St → Res) : atP prog (tabS [(i_SzWd, e_SzWd), (i_ToWd, e_ToWd), (i_sReused, e_sReused), (i_iReused, e_iReused), (i_EqWd, e_EqWd)]) kp_xReused F_xReused [1, 1, 1, 0] n (sq_xReused_3 a b r1) K = (
 bif decide (r1 < 0) then
  K .ret [(16, ⟨z0, [(false, [.tr true (T.bool true)])]⟩)]
 else
 K .normal (sq_xReused_4 a b r1)) := by kernel_rfl
def sq_xReused_5 (a : Wd) (b : Wd) (r2 : Int) : St := [(8, ⟨z0, [(false, [(C.pt (Pt.ptr 9 0 [] 12 0 0))])]⟩), (9, ⟨z0, [(true, [.tr true (T.int IntKind.i64 a.c.1), .tr true (T.int IntKind.i64 a.c.2), .tr true (T.int IntKind.i64 a.c.3), .tr true (T.int IntKind.i64 a.c.4), .tr true (T.int IntKind.i64 a.c.5), .tr true (T.int IntKind.i64 a.c.6), .tr false (eL 1 rowB a.p.1), .tr false (eL 1 rowI a.p.2), .tr false (eL 1 rowI a.p.3), .tr false (eL 13 Nd.cs a.3), .tr false (eL 5 Ws.cs a.4), .tr false (eL 1 rowI a.5)])]⟩), (12, ⟨z0, [(false, [(C.pt (Pt.ptr 13 0 [] 12 0 0))])]⟩), (13, ⟨z0, [(true, [.tr true (T.int IntKind.i64 b.c.1), .tr true (T.int IntKind.i64 b.c.2), .tr true (T.int IntKind.i64 b.c.3), .tr true (T.int IntKind.i64 b.c.4), .tr true (T.int IntKind.i64 b.c.5), .tr true (T.int IntKind.i64 b.c.6), .tr false (eL 1 rowB b.p.1), .tr false (eL 1 rowI b.p.2), .tr false (eL 1 rowI b.p.3), .tr false (eL 13 Nd.cs b.3), .tr false (eL 5 Ws.cs b.4), .tr false (eL 1 rowI b.5)])]⟩), (20, ⟨z0, [(false, [.tr true (T.int IntKind.i64 r2)])]⟩)]
theorem sg_xReused_4 (a : Wd) (b : Wd) (r1 : Int) (n : Nat) (K : Ex → St → Res) : atP prog (tabS [(i_SzWd, e_SzWd), (i_ToWd, e_ToWd), (i_sReused, e_sReused), (i_iReused, e_iReused), (i_EqWd, e_EqWd)]) kp_xReused F_xReused [1, 1, 1, 1, 0] n (sq_xReused_4 a b r1) K = (
 entK ok_SzWd ea_SzWd (f_SzWd) [(0, true,
    [C.tr false (T.int IntKind.i64 b.c.1), C.tr false (T.int IntKind.i64 b.c.2),
      C.tr false (T.int IntKind.i64 b.c.3), C.tr false (T.int IntKind.i64 b.c.4),
      C.tr false (T.int IntKind.i64 b.c.5), C.tr false (T.int IntKind.i64 b.c.6), C.tr false (eL 1 rowB b.p.1),
      C.tr false (eL 1 rowI b.p.2), C.tr false (eL 1 rowI b.p.3), C.tr false (eL 13 Nd.cs b.3),
      C.tr false (eL 5 Ws.cs b.4), C.tr false (eL 1 rowI b.5)]),
  (0, false, [C.tr false (T.int IntKind.i64 r1)])] fun (r2 : Int) =>
 K .normal (sq_xReused_5 a b r2)) := by kernel_rfl
def sq_xReused_6 (a : Wd) (b : Wd) : St := [(8, ⟨z0, [(false, [(C.pt (Pt.ptr 9 0 [] 12 0 0))])]⟩), (9, ⟨z0, [(true, [.tr true (T.int IntKind.i64 a.c.1), .tr true (T.int IntKind.i64 a.c.2), .tr true (T.int IntKind.i64 a.c.3), .tr true (T.int IntKind.i64 a.c.4), .tr true (T.int IntKind.i64 a.c.5), .tr true (T.int IntKind.i64 a.c.6), .tr false (eL 1 rowB a.p.1), .tr false (eL 1 rowI a.p.2), .tr false (eL 1 rowI a.p.3), .tr false (eL 13 Nd.cs a.3), .tr false (eL 5 Ws.cs a.4), .tr false (eL 1 rowI a.5)])]⟩), (12, ⟨z0, [(false, [(C.pt (Pt.ptr 13 0 [] 12 0 0))])]⟩), (13, ⟨z0, [(true, [.tr true (T.int IntKind.i64 b.c.1), .tr true (T.int IntKind.i64 b.c.2), .tr true (T.int IntKind.i64 b.c.3), .tr true (T.int IntKind.i64 b.c.4), .tr true (T.int IntKind.i64 b.c.5), .tr true (T.int IntKind.i64 b.c.6), .tr false (eL 1 rowB b.p.1), .tr false (eL 1 rowI b.p.2), .tr false (eL 1 rowI b.p.3), .tr false (eL 13 Nd.cs b.3), .tr false (eL 5 Ws.cs b.4), .tr false (eL 1 rowI b.5)])]⟩), (76, ⟨z0, []⟩)]
theorem sg_xReused_5 (a : Wd) (b : Wd) (r2 : Int) (n : Nat) (K : Ex → St → Res) : atP prog (tabS [(i_SzWd, e_SzWd), (i_ToWd, e_ToWd), (i_sReused, e_sReused), (i_iReused, e_iReused), (i_EqWd, e_EqWd)]) kp_xReused F_xReused [1, 1, 1, 1, 1, 0] n (sq_xReused_5 a b r2) K = (
 bif decide (r2 < 0) then
  K .ret [(16, ⟨z0, [(false, [.tr true (T.bool true)])]⟩)]
 else
 K .normal (sq_xReused_6 a b)) := by kernel_rfl
def sq_xReused_7 (a : Wd) (b : Wd) (r5 : Int) : St := [(8, ⟨z0, [(false, [(C.pt (Pt.ptr 9 0 [] 12 0 0))])]⟩), (9, ⟨z0, [(true, [.tr true (T.int IntKind.i64 a.c.1), .tr true (T.int IntKind.i64 a.c.2), .tr true (T.int IntKind.i64 a.c.3), .tr true (T.int IntKind.i64 a.c.4), .tr true (T.int IntKind.i64 a.c.5), .tr true (T.int IntKind.i64 a.c.6), .tr false (eL 1 rowB a.p.1), .tr false (eL 1 rowI a.p.2), .tr false (eL 1 rowI a.p.3), .tr false (eL 13 Nd.cs a.3), .tr false (eL 5 Ws.cs a.4), .tr false (eL 1 rowI a.5)])]⟩), (12, ⟨z0, [(false, [(C.pt (Pt.ptr 13 0 [] 12 0 0))])]⟩), (13, ⟨z0, [(true, [.tr true (T.int IntKind.i64 b.c.1), .tr true (T.int IntKind.i64 b.c.2), .tr true (T.int IntKind.i64 b.c.3), .tr true (T.int IntKind.i64 b.c.4), .tr true (T.int IntKind.i64 b.c.5), .tr true (T.int IntKind.i64 b.c.6), .tr false (eL 1 rowB b.p.1), .tr false (eL 1 rowI b.p.2), .tr false (eL 1 rowI b.p.3), .tr false (eL 13 Nd.cs b.3), .tr false (eL 5 Ws.cs b.4), .tr false (eL 1 rowI b.5)])]⟩), (24, ⟨z0, [(false, [.tr true (T.int IntKind.i64 r5)])]⟩)]
theorem sg_xReused_6 (a : Wd) (b : Wd) (n : Nat) (K : Ex → St → Res) : atP prog (tabS [(i_SzWd, e_SzWd), (i_ToWd, e_ToWd), (i_sReused, e_sReused), (i_iReused, e_iReused), (i_EqWd, e_EqWd)]) kp_xReused F_xReused [1, 1, 1, 1, 1, 1, 0] n (sq_xReused_6 a b) K = (
 entK ok_ToWd ea_ToWd (f_ToWd) [(0, true,
    [C.tr false (T.int IntKind.i64 a.c.1), C.tr false (T.int IntKind.i64 a.c.2),
      C.tr false (T.int IntKind.i64 a.c.3), C.tr false (T.int IntKind.i64 a.c.4),
      C.tr false (T.int IntKind.i64 a.c.5), C.tr false (T.int IntKind.i64 a.c.6), C.tr false (eL 1 rowB a.p.1),
      C.tr false (eL 1 rowI a.p.2), C.tr false (eL 1 rowI a.p.3), C.tr false (eL 13 Nd.cs a.3),
      C.tr false (eL 5 Ws.cs a.4), C.tr false (eL 1 rowI a.5)])] fun (r3 : Wd) =>
 entK ok_ToWd ea_ToWd (f_ToWd) [(0, true,
    [C.tr false (T.int IntKind.i64 b.c.1), C.tr false (T.int IntKind.i64 b.c.2),
      C.tr false (T.int IntKind.i64 b.c.3), C.tr false (T.int IntKind.i64 b.c.4),
      C.tr false (T.int IntKind.i64 b.c.5), C.tr false (T.int IntKind.i64 b.c.6), C.tr false (eL 1 rowB b.p.1),
      C.tr false (eL 1 rowI b.p.2), C.tr false (eL 1 rowI b.p.3), C.tr false (eL 13 Nd.cs b.3),
      C.tr false (eL 5 Ws.cs b.4), C.tr false (eL 1 rowI b.5)])] fun (r4 : Wd) =>
 gd ((0 + r3.p.1.length).ble r3.p.1.length) <|
 gd ((0 + r3.p.2.length).ble r3.p.2.length) <|
 gd ((0 + r3.p.3.length).ble r3.p.3.length) <|
 gd ((0 + r3.3.length).ble r3.3.length) <|
 gd ((0 + r3.4.length).ble r3.4.length) <|
 gd ((0 + r3.5.length).ble r3.5.length) <|
 gd ((0 + r4.p.1.length).ble r4.p.1.length) <|
 gd ((0 + r4.p.2.length).ble r4.p.2.length) <|
 gd ((0 + r4.p.3.length).ble r4.p.3.length) <|
 gd ((0 + r4.3.length).ble r4.3.length) <|
 gd ((0 + r4.4.length).ble r4.4.length) <|
 gd ((0 + r4.5.length).ble r4.5.length) <|
 entK ok_sReused ea_sReused (f_sReused) [(0, true,
    [C.tr false (T.int IntKind.i64 r3.c.1), C.tr false (T.int IntKind.i64 r3.c.2),
      C.tr false (T.int IntKind.i64 r3.c.3), C.tr false (T.int IntKind.i64 r3.c.4),
      C.tr false (T.int IntKind.i64 r3.c.5), C.tr false (T.int IntKind.i64 r3.c.6),
      C.tr false (T.arr 1 r3.p.1.length (cutT 0 r3.p.1.length (eL 1 rowB r3.p.1).fn)),
      C.tr false (T.arr 1 r3.p.2.length (cutT 0 r3.p.2.length (eL 1 rowI r3.p.2).fn)),
      C.tr false (T.arr 1 r3.p.3.length (cutT 0 r3.p.3.length (eL 1 rowI r3.p.3).fn)),
      C.tr false (T.arr 13 r3.3.length (cutT 0 r3.3.length (eL 13 Nd.cs r3.3).fn)),
      C.tr false (T.arr 5 r3.4.length (cutT 0 r3.4.length (eL 5 Ws.cs r3.4).fn)),
      C.tr false (T.arr 1 r3.5.length (cutT 0 r3.5.length (eL 1 rowI r3.5).fn))]),
  (0, true,
    [C.tr false (T.int IntKind.i64 r4.c.1), C.tr false (T.int IntKind.i64 r4.c.2),
      C.tr false (T.int IntKind.i64 r4.c.3), C.tr false (T.int IntKind.i64 r4.c.4),
      C.tr false (T.int IntKind.i64 r4.c.5), C.tr false (T.int IntKind.i64 r4.c.6),
      C.tr false (T.arr 1 r4.p.1.length (cutT 0 r4.p.1.length (eL 1 rowB r4.p.1).fn)),
      C.tr false (T.arr 1 r4.p.2.length (cutT 0 r4.p.2.length (eL 1 rowI r4.p.2).fn)),
      C.tr false (T.arr 1 r4.p.3.length (cutT 0 r4.p.3.length (eL 1 rowI r4.p.3).fn)),
      C.tr false (T.arr 13 r4.3.length (cutT 0 r4.3.length (eL 13 Nd.cs r4.3).fn)),
      C.tr false (T.arr 5 r4.4.length (cutT 0 r4.4.length (eL 5 Ws.cs r4.4).fn)),
      C.tr false (T.arr 1 r4.5.length (cutT 0 r4.5.length (eL 1 rowI r4.5).fn))])] fun (r5 : Int) =>
 K .normal (sq_xReused_7 a b r5)) := by kernel_rfl
def sq_xReused_8 (a : Wd) (b : Wd) (r5 : Int) (r6 : Wd) : St := [(8, ⟨z0, [(false, [(C.pt (Pt.ptr 9 0 [] 12 0 0))])]⟩), (9, ⟨z0, [(true, [.tr true (T.int IntKind.i64 a.c.1), .tr true (T.int IntKind.i64 a.c.2), .tr true (T.int IntKind.i64 a.c.3), .tr true (T.int IntKind.i64 a.c.4), .tr true (T.int IntKind.i64 a.c.5), .tr true (T.int IntKind.i64 a.c.6), .tr false (eL 1 rowB a.p.1), .tr false (eL 1 rowI a.p.2), .tr false (eL 1 rowI a.p.3), .tr false (eL 13 Nd.cs a.3), .tr false (eL 5 Ws.cs a.4), .tr false (eL 1 rowI a.5)])]⟩), (12, ⟨z0, [(false, [(C.pt (Pt.ptr 13 0 [] 12 0 0))])]⟩), (13, ⟨z0, [(true, [.tr true (T.int IntKind.i64 b.c.1), .tr true (T.int IntKind.i64 b.c.2), .tr true (T.int IntKind.i64 b.c.3), .tr true (T.int IntKind.i64 b.c.4), .tr true (T.int IntKind.i64 b.c.5), .tr true (T.int IntKind.i64 b.c.6), .tr false (eL 1 rowB b.p.1), .tr false (eL 1 rowI b.p.2), .tr false (eL 1 rowI b.p.3), .tr false (eL 13 Nd.cs b.3), .tr false (eL 5 Ws.cs b.4), .tr false (eL 1 rowI b.5)])]⟩), (24, ⟨z0, [(false, [.tr true (T.int IntKind.i64 r5)])]⟩), (28, ⟨z0, [(false, [(C.pt (Pt.ptr 29 0 [] 12 0 0))])]⟩), (29, ⟨z0, [(true, [.tr true (T.int IntKind.i64 r6.c.1), .tr true (T.int IntKind.i64 r6.c.2), .tr true (T.int IntKind.i64 r6.c.3), .tr true (T.int IntKind.i64 r6.c.4), .tr true (T.int IntKind.i64 r6.c.5), .tr true (T.int IntKind.i64 r6.c.6), .tr true (.arr (1) (r6.p.1.length) ((eL 1 rowB r6.p.1).fn)), .tr true (.arr (1) (r6.p.2.length) ((eL 1 rowI r6.p.2).fn)), .tr true (.arr (1) (r6.p.3.length) ((eL 1 rowI r6.p.3).fn)), .tr true (.arr (13) (r6.3.length) ((eL 13 Nd.cs r6.3).fn)), .tr true (.arr (5) (r6.4.length) ((eL 5 Ws.cs r6.4).fn)), .tr true (.arr (1) (r6.5.length) ((eL 1 rowI r6.5).fn))])]⟩), (104, ⟨z0, [(true, [.tr true (T.int IntKind.i64 r6.c.1), .tr true (T.int IntKind.i64 r6.c.2), .tr true (T.int IntKind.i64 r6.c.3), .tr true (T.int IntKind.i64 r6.c.4), .tr true (T.int IntKind.i64 r6.c.5), .tr true (T.int IntKind.i64 r6.c.6), .tr true (T.hole), .tr true (T.hole), .tr true (T.hole), .tr true (T.hole), .tr true (T.hole), .tr true (T.hole)])]⟩)]
theorem sg_xReused_7 (a : Wd) (b : Wd) (r5 : Int) (n : Nat) (K : Ex → St → Res) : atP prog (tabS [(i_SzWd, e_SzWd), (i_ToWd, e_ToWd), (i_sReused, e_sReused), (i_iReused, e_iReused), (i_EqWd, e_EqWd)]) kp_xReused F_xReused [1, 1, 1, 1, 1, 1, 1, 0] n (sq_xReused_7 a b r5) K = (
 entK ok_ToWd ea_ToWd (f_ToWd) [(0, true,
    [C.tr false (T.int IntKind.i64 a.c.1), C.tr false (T.int IntKind.i64 a.c.2),
      C.tr false (T.int IntKind.i64 a.c.3), C.tr false (T.int IntKind.i64 a.c.4),
      C.tr false (T.int IntKind.i64 a.c.5), C.tr false (T.int IntKind.i64 a.c.6), C.tr false (eL 1 rowB a.p.1),
      C.tr false (eL 1 rowI a.p.2), C.tr false (eL 1 rowI a.p.3), C.tr false (eL 13 Nd.cs a.3),
      C.tr false (eL 5 Ws.cs a.4), C.tr false (eL 1 rowI a.5)])] fun (r6 : Wd) =>
 gd (r6.p.1.length.ble r6.p.1.length && true) <|
 gd (r6.p.2.length.ble r6.p.2.length && true) <|
 gd (r6.p.3.length.ble r6.p.3.length && true) <|
 gd (r6.3.length.ble r6.3.length && true) <|
 gd (r6.4.length.ble r6.4.length && true) <|
 gd (r6.5.length.ble r6.5.length && true) <|
 K .normal (sq_xReused_8 a b r5 r6)) := by kernel_rfl
def sq_xReused_9 (a : Wd) (b : Wd) (r5 : Int) (r6 : Wd) (r7 : Wd) : St := [(8, ⟨z0, [(false, [(C.pt (Pt.ptr 9 0 [] 12 0 0))])]⟩), (9, ⟨z0, [(true, [.tr true (T.int IntKind.i64 a.c.1), .tr true (T.int IntKind.i64 a.c.2), .tr true (T.int IntKind.i64 a.c.3), .tr true (T.int IntKind.i64 a.c.4), .tr true (T.int IntKind.i64 a.c.5), .tr true (T.int IntKind.i64 a.c.6), .tr false (eL 1 rowB a.p.1), .tr false (eL 1 rowI a.p.2), .tr false (eL 1 rowI a.p.3), .tr false (eL 13 Nd.cs a.3), .tr false (eL 5 Ws.cs a.4), .tr false (eL 1 rowI a.5)])]⟩), (12, ⟨z0, [(false, [(C.pt (Pt.ptr 13 0 [] 12 0 0))])]⟩), (13, ⟨z0, [(true, [.tr true (T.int IntKind.i64 b.c.1), .tr true (T.int IntKind.i64 b.c.2), .tr true (T.int IntKind.i64 b.c.3), .tr true (T.int IntKind.i64 b.c.4), .tr true (T.int IntKind.i64 b.c.5), .tr true (T.int IntKind.i64 b.c.6), .tr false (eL 1 rowB b.p.1), .tr false (eL 1 rowI b.p.2), .tr false (eL 1 rowI b.p.3), .tr false (eL 13 Nd.cs b.3), .tr false (eL 5 Ws.cs b.4), .tr false (eL 1 rowI b.5)])]⟩), (24, ⟨z0, [(false, [.tr true (T.int IntKind.i64 r5)])]⟩), (28, ⟨z0, [(false, [(C.pt (Pt.ptr 29 0 [] 12 0 0))])]⟩), (29, ⟨z0, [(true, [.tr true (T.int IntKind.i64 r6.c.1), .tr true (T.int IntKind.i64 r6.c.2), .tr true (T.int IntKind.i64 r6.c.3), .tr true (T.int IntKind.i64 r6.c.4), .tr true (T.int IntKind.i64 r6.c.5), .tr true (T.int IntKind.i64 r6.c.6), .tr true (.arr (1) (r6.p.1.length) ((eL 1 rowB r6.p.1).fn)), .tr true (.arr (1) (r6.p.2.length) ((eL 1 rowI r6.p.2).fn)), .tr true (.arr (1) (r6.p.3.length) ((eL 1 rowI r6.p.3).fn)), .tr true (.arr (13) (r6.3.length) ((eL 13 Nd.cs r6.3).fn)), .tr true (.arr (5) (r6.4.length) ((eL 5 Ws.cs r6.4).fn)), .tr true (.arr (1) (r6.5.length) ((eL 1 rowI r6.5).fn))])]⟩), (32, ⟨z0, [(false, [(C.pt (Pt.ptr 33 0 [] 12 0 0))])]⟩), (33, ⟨z0, [(true, [.tr true (T.int IntKind.i64 r7.c.1), .tr true (T.int IntKind.i64 r7.c.2), .tr true (T.int IntKind.i64 r7.c.3), .tr true (T.int IntKind.i64 r7.c.4), .tr true (T.int IntKind.i64 r7.c.5), .tr true (T.int IntKind.i64 r7.c.6), .tr true (.arr (1) (r7.p.1.length) ((eL 1 rowB r7.p.1).fn)), .tr true (.arr (1) (r7.p.2.length) ((eL 1 rowI r7.p.2).fn)), .tr true (.arr (1) (r7.p.3.length) ((eL 1 rowI r7.p.3).fn)), .tr true (.arr (13) (r7.3.length) ((eL 13 Nd.cs r7.3).fn)), .tr true (.arr (5) (r7.4.length) ((eL 5 Ws.cs r7.4).fn)), .tr true (.arr (1) (r7.5.length) ((eL 1 rowI r7.5).fn))])]⟩), (104, ⟨z0, [(true, [.tr true (T.int IntKind.i64 r6.c.1), .tr true (T.int IntKind.i64 r6.c.2), .tr true (T.int IntKind.i64 r6.c.3), .tr true (T.int IntKind.i64 r6.c.4), .tr true (T.int IntKind.i64 r6.c.5), .tr true (T.int IntKind.i64 r6.c.6), .tr true (T.hole), .tr true (T.hole), .tr true (T.hole), .tr true (T.hole), .tr true (T.hole), .tr true (T.hole)])]⟩), (112, ⟨z0, [(true, [.tr true (T.int IntKind.i64 r7.c.1), .tr true (T.int IntKind.i64 r7.c.2), .tr true (T.int IntKind.i64 r7.c.3), .tr true (T.int IntKind.i64 r7.c.4), .tr true (T.int IntKind.i64 r7.c.5), .tr true (T.int IntKind.i64 r7.c.6), .tr true (T.hole), .tr true (T.hole), .tr true (T.hole), .tr true (T.hole), .tr true (T.hole), .tr true (T.hole)])]⟩)]
theorem sg_xReused_8 (a : Wd) (b : Wd) (r5 : Int) (r6 : Wd) (n : Nat) (K : Ex → St → Res) : atP prog (tabS [(i_SzWd, e_SzWd), (i_ToWd, e_ToWd), (i_sReused, e_sReused), (i_iReused, e_iReused), (i_EqWd, e_EqWd)]) kp_xReused F_xReused [1, 1, 1, 1, 1, 1, 1, 1, 0] n (sq_xReused_8 a b r5 r6) K = (
 entK ok_ToWd ea_ToWd (f_ToWd) [(0, true,
    [C.tr false (T.int IntKind.i64 b.c.1), C.tr false (T.int IntKind.i64 b.c.2),
      C.tr false (T.int IntKind.i64 b.c.3), C.tr false (T.int IntKind.i64 b.c.4),
      C.tr false (T.int IntKind.i64 b.c.5), C.tr false (T.int IntKind.i64 b.c.6), C.tr false (eL 1 rowB b.p.1),
      C.tr false (eL 1 rowI b.p.2), C.tr false (eL 1 rowI b.p.3), C.tr false (eL 13 Nd.cs b.3),
      C.tr false (eL 5 Ws.cs b.4), C.tr false (eL 1 rowI b.5)])] fun (r7 : Wd) =>
 gd (r7.p.1.length.ble r7.p.1.length && true) <|
 gd (r7.p.2.length.ble r7.p.2.length && true) <|
 gd (r7.p.3.length.ble r7.p.3.length && true) <|
 gd (r7.3.length.ble r7.3.length && true) <|
 gd (r7.4.length.ble r7.4.length && true) <|
 gd (r7.5.length.ble r7.5.length && true) <|
 K .normal (sq_xReused_9 a b r5 r6 r7)) := by kernel_rfl
def sq_xReused_10 (a : Wd) (b : Wd) (r5 : Int) (r6 : Wd) (r7 : Wd) (r8 : Int) : St := [(8, ⟨z0, [(false, [(C.pt (Pt.ptr 9 0 [] 12 0 0))])]⟩), (9, ⟨z0, [(true, [.tr true (T.int IntKind.i64 a.c.1), .tr true (T.int IntKind.i64 a.c.2), .tr true (T.int IntKind.i64 a.c.3), .tr true (T.int IntKind.i64 a.c.4), .tr true (T.int IntKind.i64 a.c.5), .tr true (T.int IntKind.i64 a.c.6), .tr false (eL 1 rowB a.p.1), .tr false (eL 1 rowI a.p.2), .tr false (eL 1 rowI a.p.3), .tr false (eL 13 Nd.cs a.3), .tr false (eL 5 Ws.cs a.4), .tr false (eL 1 rowI a.5)])]⟩), (12, ⟨z0, [(false, [(C.pt (Pt.ptr 13 0 [] 12 0 0))])]⟩), (13, ⟨z0, [(true, [.tr true (T.int IntKind.i64 b.c.1), .tr true (T.int IntKind.i64 b.c.2), .tr true (T.int IntKind.i64 b.c.3), .tr true (T.int IntKind.i64 b.c.4), .tr true (T.int IntKind.i64 b.c.5), .tr true (T.int IntKind.i64 b.c.6), .tr false (eL 1 rowB b.p.1), .tr false (eL 1 rowI b.p.2), .tr false (eL 1 rowI b.p.3), .tr false (eL 13 Nd.cs b.3), .tr false (eL 5 Ws.cs b.4), .tr false (eL 1 rowI b.5)])]⟩), (24, ⟨z0, [(false, [.tr true (T.int IntKind.i64 r5)])]⟩), (28, ⟨z0, [(false, [(C.pt (Pt.ptr 29 0 [] 12 0 0))])]⟩), (29, ⟨z0, [(true, [.tr true (T.int IntKind.i64 r6.c.1), .tr true (T.int IntKind.i64 r6.c.2), .tr true (T.int IntKind.i64 r6.c.3), .tr true (T.int IntKind.i64 r6.c.4), .tr true (T.int IntKind.i64 r6.c.5), .tr true (T.int IntKind.i64 r6.c.6), .tr true (.arr (1) (r6.p.1.length) ((eL 1 rowB r6.p.1).fn)), .tr true (.arr (1) (r6.p.2.length) ((eL 1 rowI r6.p.2).fn)), .tr true (.arr (1) (r6.p.3.length) ((eL 1 rowI r6.p.3).fn)), .tr true (.arr (13) (r6.3.length) ((eL 13 Nd.cs r6.3).fn)), .tr true (.arr (5) (r6.4.length) ((eL 5 Ws.cs r6.4).fn)), .tr true (.arr (1) (r6.5.length) ((eL 1 rowI r6.5).fn))])]⟩), (32, ⟨z0, [(false, [(C.pt (Pt.ptr 33 0 [] 12 0 0))])]⟩), (33, ⟨z0, [(true, [.tr true (T.int IntKind.i64 r7.c.1), .tr true (T.int IntKind.i64 r7.c.2), .tr true (T.int IntKind.i64 r7.c.3), .tr true (T.int IntKind.i64 r7.c.4), .tr true (T.int IntKind.i64 r7.c.5), .tr true (T.int IntKind.i64 r7.c.6), .tr true (.arr (1) (r7.p.1.length) ((eL 1 rowB r7.p.1).fn)), .tr true (.arr (1) (r7.p.2.length) ((eL 1 rowI r7.p.2).fn)), .tr true (.arr (1) (r7.p.3.length) ((eL 1 rowI r7.p.3).fn)), .tr true (.arr (13) (r7.3.length) ((eL 13 Nd.cs r7.3).fn)), .tr true (.arr (5) (r7.4.length) ((eL 5 Ws.cs r7.4).fn)), .tr true (.arr (1) (r7.5.length) ((eL 1 rowI r7.5).fn))])]⟩), (36, ⟨z0, [(false, [.tr true (T.int IntKind.i64 r8)])]⟩), (104, ⟨z0, [(true, [.tr true (T.int IntKind.i64 r6.c.1), .tr true (T.int IntKind.i64 r6.c.2), .tr true (T.int IntKind.i64 r6.c.3), .tr true (T.int IntKind.i64 r6.c.4), .tr true (T.int IntKind.i64 r6.c.5), .tr true (T.int IntKind.i64 r6.c.6), .tr true (T.hole), .tr true (T.hole), .tr true (T.hole), .tr true (T.hole), .tr true (T.hole), .tr true (T.hole)])]⟩), (112, ⟨z0, [(true, [.tr true (T.int IntKind.i64 r7.c.1), .tr true (T.int IntKind.i64 r7.c.2), .tr true (T.int IntKind.i64 r7.c.3), .tr true (T.int IntKind.i64 r7.c.4), .tr true (T.int IntKind.i64 r7.c.5), .tr true (T.int IntKind.i64 r7.c.6), .tr true (T.hole), .tr true (T.hole), .tr true (T.hole), .tr true (T.hole), .tr true (T.hole), .tr true (T.hole)])]⟩)]
theorem sg_xReused_9 (a : Wd) (b : Wd) (r5 : Int) (r6 : Wd) (r7 : Wd) (n : Nat) (K : Ex → St → Res) : atP prog (tabS [(i_SzWd, e_SzWd), (i_ToWd, e_ToWd), (i_sReused, e_sReused), (i_iReused, e_iReused), (i_EqWd, e_EqWd)]) kp_xReused F_xReused [1, 1, 1, 1, 1, 1, 1, 1, 1, 0] n (sq_xReused_9 a b r5 r6 r7) K = (
 gd ((0 + r6.p.1.length).ble r6.p.1.length) <|
 gd ((0 + r6.p.2.length).ble r6.p.2.length) <|
 gd ((0 + r6.p.3.length).ble r6.p.3.length) <|
 gd ((0 + r6.3.length).ble r6.3.length) <|
 gd ((0 + r6.4.length).ble r6.4.length) <|
 gd ((0 + r6.5.length).ble r6.5.length) <|
 gd ((0 + r7.p.1.length).ble r7.p.1.length) <|
 gd ((0 + r7.p.2.length).ble r7.p.2.length) <|
 gd ((0 + r7.p.3.length).ble r7.p.3.length) <|
 gd ((0 + r7.3.length).ble r7.3.length) <|
 gd ((0 + r7.4.length).ble r7.4.length) <|
 gd ((0 + r7.5.length).ble r7.5.length) <|
 entK ok_iReused ea_iReused (f_iReused) [(0, true,
    [C.tr false (T.int IntKind.i64 r6.c.1), C.tr false (T.int IntKind.i64 r6.c.2),
      C.tr false (T.int IntKind.i64 r6.c.3), C.tr false (T.int IntKind.i64 r6.c.4),
      C.tr false (T.int IntKind.i64 r6.c.5), C.tr false (T.int IntKind.i64 r6.c.6),
      C.tr false (T.arr 1 r6.p.1.length (cutT 0 r6.p.1.length (eL 1 rowB r6.p.1).fn)),
      C.tr false (T.arr 1 r6.p.2.length (cutT 0 r6.p.2.length (eL 1 rowI r6.p.2).fn)),
      C.tr false (T.arr 1 r6.p.3.length (cutT 0 r6.p.3.length (eL 1 rowI r6.p.3).fn)),
      C.tr false (T.arr 13 r6.3.length (cutT 0 r6.3.length (eL 13 Nd.cs r6.3).fn)),
      C.tr false (T.arr 5 r6.4.length (cutT 0 r6.4.length (eL 5 Ws.cs r6.4).fn)),
      C.tr false (T.arr 1 r6.5.length (cutT 0 r6.5.length (eL 1 rowI r6.5).fn))]),
  (0, true,
    [C.tr false (T.int IntKind.i64 r7.c.1), C.tr false (T.int IntKind.i64 r7.c.2),
      C.tr false (T.int IntKind.i64 r7.c.3), C.tr false (T.int IntKind.i64 r7.c.4),
      C.tr false (T.int IntKind.i64 r7.c.5), C.tr false (T.int IntKind.i64 r7.c.6),
      C.tr false (T.arr 1 r7.p.1.length (cutT 0 r7.p.1.length (eL 1 rowB r7.p.1).fn)),
      C.tr false (T.arr 1 r7.p.2.length (cutT 0 r7.p.2.length (eL 1 rowI r7.p.2).fn)),
      C.tr false (T.arr 1 r7.p.3.length (cutT 0 r7.p.3.length (eL 1 rowI r7.p.3).fn)),
      C.tr false (T.arr 13 r7.3.length (cutT 0 r7.3.length (eL 13 Nd.cs r7.3).fn)),
      C.tr false (T.arr 5 r7.4.length (cutT 0 r7.4.length (eL 5 Ws.cs r7.4).fn)),
      C.tr false (T.arr 1 r7.5.length (cutT 0 r7.5.length (eL 1 rowI r7.5).fn))])] fun (r8 : Int) =>
 K .normal (sq_xReused_10 a b r5 r6 r7 r8)) := by kernel_rfl
def sq_xReused_11 (a : Wd) (b : Wd) (r6 : Wd) (r7 : Wd) : St := [(8, ⟨z0, [(false, [(C.pt (Pt.ptr 9 0 [] 12 0 0))])]⟩), (9, ⟨z0, [(true, [.tr true (T.int IntKind.i64 a.c.1), .tr true (T.int IntKind.i64 a.c.2), .tr true (T.int IntKind.i64 a.c.3), .tr true (T.int IntKind.i64 a.c.4), .tr true (T.int IntKind.i64 a.c.5), .tr true (T.int IntKind.i64 a.c.6), .tr false (eL 1 rowB a.p.1), .tr false (eL 1 rowI a.p.2), .tr false (eL 1 rowI a.p.3), .tr false (eL 13 Nd.cs a.3), .tr false (eL 5 Ws.cs a.4), .tr false (eL 1 rowI a.5)])]⟩), (12, ⟨z0, [(false, [(C.pt (Pt.ptr 13 0 [] 12 0 0))])]⟩), (13, ⟨z0, [(true, [.tr true (T.int IntKind.i64 b.c.1), .tr true (T.int IntKind.i64 b.c.2), .tr true (T.int IntKind.i64 b.c.3), .tr true (T.int IntKind.i64 b.c.4), .tr true (T.int IntKind.i64 b.c.5), .tr true (T.int IntKind.i64 b.c.6), .tr false (eL 1 rowB b.p.1), .tr false (eL 1 rowI b.p.2), .tr false (eL 1 rowI b.p.3), .tr false (eL 13 Nd.cs b.3), .tr false (eL 5 Ws.cs b.4), .tr false (eL 1 rowI b.5)])]⟩), (28, ⟨z0, [(false, [(C.pt (Pt.ptr 29 0 [] 12 0 0))])]⟩), (29, ⟨z0, [(true, [.tr true (T.int IntKind.i64 r6.c.1), .tr true (T.int IntKind.i64 r6.c.2), .tr true (T.int IntKind.i64 r6.c.3), .tr true (T.int IntKind.i64 r6.c.4), .tr true (T.int IntKind.i64 r6.c.5), .tr true (T.int IntKind.i64 r6.c.6), .tr true (.arr (1) (r6.p.1.length) ((eL 1 rowB r6.p.1).fn)), .tr true (.arr (1) (r6.p.2.length) ((eL 1 rowI r6.p.2).fn)), .tr true (.arr (1) (r6.p.3.length) ((eL 1 rowI r6.p.3).fn)), .tr true (.arr (13) (r6.3.length) ((eL 13 Nd.cs r6.3).fn)), .tr true (.arr (5) (r6.4.length) ((eL 5 Ws.cs r6.4).fn)), .tr true (.arr (1) (r6.5.length) ((eL 1 rowI r6.5).fn))])]⟩), (32, ⟨z0, [(false, [(C.pt (Pt.ptr 33 0 [] 12 0 0))])]⟩), (33, ⟨z0, [(true, [.tr true (T.int IntKind.i64 r7.c.1), .tr true (T.int IntKind.i64 r7.c.2), .tr true (T.int IntKind.i64 r7.c.3), .tr true (T.int IntKind.i64 r7.c.4), .tr true (T.int IntKind.i64 r7.c.5), .tr true (T.int IntKind.i64 r7.c.6), .tr true (.arr (1) (r7.p.1.length) ((eL 1 rowB r7.p.1).fn)), .tr true (.arr (1) (r7.p.2.length) ((eL 1 rowI r7.p.2).fn)), .tr true (.arr (1) (r7.p.3.length) ((eL 1 rowI r7.p.3).fn)), .tr true (.arr (13) (r7.3.length) ((eL 13 Nd.cs r7.3).fn)), .tr true (.arr (5) (r7.4.length) ((eL 5 Ws.cs r7.4).fn)), .tr true (.arr (1) (r7.5.length) ((eL 1 rowI r7.5).fn))])]⟩), (104, ⟨z0, [(true, [.tr true (T.int IntKind.i64 r6.c.1), .tr true (T.int IntKind.i64 r6.c.2), .tr true (T.int IntKind.i64 r6.c.3), .tr true (T.int IntKind.i64 r6.c.4), .tr true (T.int IntKind.i64 r6.c.5), .tr true (T.int IntKind.i64 r6.c.6), .tr true (T.hole), .tr true (T.hole), .tr true (T.hole), .tr true (T.hole), .tr true (T.hole), .tr true (T.hole)])]⟩), (112, ⟨z0, [(true, [.tr true (T.int IntKind.i64 r7.c.1), .tr true (T.int IntKind.i64 r7.c.2), .tr true (T.int IntKind.i64 r7.c.3), .tr true (T.int IntKind.i64 r7.c.4), .tr true (T.int IntKind.i64 r7.c.5), .tr true (T.int IntKind.i64 r7.c.6), .tr true (T.hole), .tr true (T.hole), .tr true (T.hole), .tr true (T.hole), .tr true (T.hole), .tr true (T.hole)])]⟩), (136, ⟨z0, []⟩)]
theorem sg_xReused_10 (a : Wd) (b : Wd) (r5 : Int) (r6 : Wd) (r7 : Wd) (r8 : Int) (n : Nat) (K : Ex → St → Res) : atP prog (tabS [(i_SzWd, e_SzWd), (i_ToWd, e_ToWd), (i_sReused, e_sReused), (i_iReused, e_iReused), (i_EqWd, e_EqWd)]) kp_xReused F_xReused [1, 1, 1, 1, 1, 1, 1, 1, 1, 1, 0] n (sq_xReused_10 a b r5 r6 r7 r8) K = (
 bif r8 != r5 then
  K .ret [(16, ⟨z0, [(false, [.tr true (T.bool false)])]⟩)]
 else
 K .normal (sq_xReused_11 a b r6 r7)) := by kernel_rfl
def sq_xReused_12 (a : Wd) (b : Wd) (r7 : Wd) : St := [(12, ⟨z0, [(false, [(C.pt (Pt.ptr 13 0 [] 12 0 0))])]⟩), (13, ⟨z0, [(true, [.tr true (T.int IntKind.i64 b.c.1), .tr true (T.int IntKind.i64 b.c.2), .tr true (T.int IntKind.i64 b.c.3), .tr true (T.int IntKind.i64 b.c.4), .tr true (T.int IntKind.i64 b.c.5), .tr true (T.int IntKind.i64 b.c.6), .tr false (eL 1 rowB b.p.1), .tr false (eL 1 rowI b.p.2), .tr false (eL 1 rowI b.p.3), .tr false (eL 13 Nd.cs b.3), .tr false (eL 5 Ws.cs b.4), .tr false (eL 1 rowI b.5)])]⟩), (32, ⟨z0, [(false, [(C.pt (Pt.ptr 33 0 [] 12 0 0))])]⟩), (33, ⟨z0, [(true, [.tr true (T.int IntKind.i64 r7.c.1), .tr true (T.int IntKind.i64 r7.c.2), .tr true (T.int IntKind.i64 r7.c.3), .tr true (T.int IntKind.i64 r7.c.4), .tr true (T.int IntKind.i64 r7.c.5), .tr true (T.int IntKind.i64 r7.c.6), .tr true (.arr (1) (r7.p.1.length) ((eL 1 rowB r7.p.1).fn)), .tr true (.arr (1) (r7.p.2.length) ((eL 1 rowI r7.p.2).fn)), .tr true (.arr (1) (r7.p.3.length) ((eL 1 rowI r7.p.3).fn)), .tr true (.arr (13) (r7.3.length) ((eL 13 Nd.cs r7.3).fn)), .tr true (.arr (5) (r7.4.length) ((eL 5 Ws.cs r7.4).fn)), .tr true (.arr (1) (r7.5.length) ((eL 1 rowI r7.5).fn))])]⟩), (112, ⟨z0, [(true, [.tr true (T.int IntKind.i64 r7.c.1), .tr true (T.int IntKind.i64 r7.c.2), .tr true (T.int IntKind.i64 r7.c.3), .tr true (T.int IntKind.i64 r7.c.4), .tr true (T.int IntKind.i64 r7.c.5), .tr true (T.int IntKind.i64 r7.c.6), .tr true (T.hole), .tr true (T.hole), .tr true (T.hole), .tr true (T.hole), .tr true (T.hole), .tr true (T.hole)])]⟩), (156, ⟨z0, []⟩)]
theorem sg_xReused_11 (a : Wd) (b : Wd) (r6 : Wd) (r7 : Wd) (n : Nat) (K : Ex → St → Res) : atP prog (tabS [(i_SzWd, e_SzWd), (i_ToWd, e_ToWd), (i_sReused, e_sReused), (i_iReused, e_iReused), (i_EqWd, e_EqWd)]) kp_xReused F_xReused [1, 1, 1, 1, 1, 1, 1, 1, 1, 1, 1, 0] n (sq_xReused_11 a b r6 r7) K = (
 entK ok_ToWd ea_ToWd (f_ToWd) [(0, true,
    [C.tr false (T.int IntKind.i64 a.c.1), C.tr false (T.int IntKind.i64 a.c.2),
      C.tr false (T.int IntKind.i64 a.c.3), C.tr false (T.int IntKind.i64 a.c.4),
      C.tr false (T.int IntKind.i64 a.c.5), C.tr false (T.int IntKind.i64 a.c.6), C.tr false (eL 1 rowB a.p.1),
      C.tr false (eL 1 rowI a.p.2), C.tr false (eL 1 rowI a.p.3), C.tr false (eL 13 Nd.cs a.3),
      C.tr false (eL 5 Ws.cs a.4), C.tr false (eL 1 rowI a.5)])] fun (r9 : Wd) =>
 gd ((0 + r6.p.1.length).ble r6.p.1.length) <|
 gd ((0 + r6.p.2.length).ble r6.p.2.length) <|
 gd ((0 + r6.p.3.length).ble r6.p.3.length) <|
 gd ((0 + r6.3.length).ble r6.3.length) <|
 gd ((0 + r6.4.length).ble r6.4.length) <|
 gd ((0 + r6.5.length).ble r6.5.length) <|
 gd ((0 + r9.p.1.length).ble r9.p.1.length) <|
 gd ((0 + r9.p.2.length).ble r9.p.2.length) <|
 gd ((0 + r9.p.3.length).ble r9.p.3.length) <|
 gd ((0 + r9.3.length).ble r9.3.length) <|
 gd ((0 + r9.4.length).ble r9.4.length) <|
 gd ((0 + r9.5.length).ble r9.5.length) <|
 entK ok_EqWd ea_EqWd (f_EqWd) [(0, true,
    [C.tr false (T.int IntKind.i64 r6.c.1), C.tr false (T.int IntKind.i64 r6.c.2),
      C.tr false (T.int IntKind.i64 r6.c.3), C.tr false (T.int IntKind.i64 r6.c.4),
      C.tr false (T.int IntKind.i64 r6.c.5), C.tr false (T.int IntKind.i64 r6.c.6),
      C.tr false (T.arr 1 r6.p.1.length (cutT 0 r6.p.1.length (eL 1 rowB r6.p.1).fn)),
      C.tr false (T.arr 1 r6.p.2.length (cutT 0 r6.p.2.length (eL 1 rowI r6.p.2).fn)),
      C.tr false (T.arr 1 r6.p.3.length (cutT 0 r6.p.3.length (eL 1 rowI r6.p.3).fn)),
      C.tr false (T.arr 13 r6.3.length (cutT 0 r6.3.length (eL 13 Nd.cs r6.3).fn)),
      C.tr false (T.arr 5 r6.4.length (cutT 0 r6.4.length (eL 5 Ws.cs r6.4).fn)),
      C.tr false (T.arr 1 r6.5.length (cutT 0 r6.5.length (eL 1 rowI r6.5).fn))]),
  (0, true,
    [C.tr false (T.int IntKind.i64 r9.c.1), C.tr false (T.int IntKind.i64 r9.c.2),
      C.tr false (T.int IntKind.i64 r9.c.3), C.tr false (T.int IntKind.i64 r9.c.4),
      C.tr false (T.int IntKind.i64 r9.c.5), C.tr false (T.int IntKind.i64 r9.c.6),
      C.tr false (T.arr 1 r9.p.1.length (cutT 0 r9.p.1.length (eL 1 rowB r9.p.1).fn)),
      C.tr false (T.arr 1 r9.p.2.length (cutT 0 r9.p.2.length (eL 1 rowI r9.p.2).fn)),
      C.tr false (T.arr 1 r9.p.3.length (cutT 0 r9.p.3.length (eL 1 rowI r9.p.3).fn)),
      C.tr false (T.arr 13 r9.3.length (cutT 0 r9.3.length (eL 13 Nd.cs r9.3).fn)),
      C.tr false (T.arr 5 r9.4.length (cutT 0 r9.4.length (eL 5 Ws.cs r9.4).fn)),
      C.tr false (T.arr 1 r9.5.length (cutT 0 r9.5.length (eL 1 rowI r9.5).fn))])] fun (r10 : Bool) =>
 bif !r10 then
  K .ret [(16, ⟨z0, [(false, [.tr true (T.bool false)])]⟩)]
 else
 K .normal (sq_xReused_12 a b r7)) := by kernel_rfl
def sq_xReused_13 (a : Wd) (b : Wd) : St := [(176, ⟨z0, []⟩)]
theorem sg_xReused_12 (a : Wd) (b : Wd) (r7 : Wd) (n : Nat) (K : Ex → St → Res) : atP prog (tabS [(i_SzWd, e_SzWd), (i_ToWd, e_ToWd), (i_sReused, e_sReused), (i_iReused, e_iReused), (i_EqWd, e_EqWd)]) kp_xReused F_xReused [1, 1, 1, 1, 1, 1, 1, 1, 1, 1, 1, 1, 0] n (sq_xReused_12 a b r7) K = (
 entK ok_ToWd ea_ToWd (f_ToWd) [(0, true,
    [C.tr false (T.int IntKind.i64 b.c.1), C.tr false (T.int IntKind.i64 b.c.2),
      C.tr false (T.int IntKind.i64 b.c.3), C.tr false (T.int IntKind.i64 b.c.4),
      C.tr false (T.int IntKind.i64 b.c.5), C.tr false (T.int IntKind.i64 b.c.6), C.tr false (eL 1 rowB b.p.1),
      C.tr false (eL 1 rowI b.p.2), C.tr false (eL 1 rowI b.p.3), C.tr false (eL 13 Nd.cs b.3),
      C.tr false (eL 5 Ws.cs b.4), C.tr false (eL 1 rowI b.5)])] fun (r11 : Wd) =>
 gd ((0 + r7.p.1.length).ble r7.p.1.length) <|
 gd ((0 + r7.p.2.length).ble r7.p.2.length) <|
 gd ((0 + r7.p.3.length).ble r7.p.3.length) <|
 gd ((0 + r7.3.length).ble r7.3.length) <|
 gd ((0 + r7.4.length).ble r7.4.length) <|
 gd ((0 + r7.5.length).ble r7.5.length) <|
 gd ((0 + r11.p.1.length).ble r11.p.1.length) <|
 gd ((0 + r11.p.2.length).ble r11.p.2.length) <|
 gd ((0 + r11.p.3.length).ble r11.p.3.length) <|
 gd ((0 + r11.3.length).ble r11.3.length) <|
 gd ((0 + r11.4.length).ble r11.4.length) <|
 gd ((0 + r11.5.length).ble r11.5.length) <|
 entK ok_EqWd ea_EqWd (f_EqWd) [(0, true,
    [C.tr false (T.int IntKind.i64 r7.c.1), C.tr false (T.int IntKind.i64 r7.c.2),
      C.tr false (T.int IntKind.i64 r7.c.3), C.tr false (T.int IntKind.i64 r7.c.4),
      C.tr false (T.int IntKind.i64 r7.c.5), C.tr false (T.int IntKind.i64 r7.c.6),
      C.tr false (T.arr 1 r7.p.1.length (cutT 0 r7.p.1.length (eL 1 rowB r7.p.1).fn)),
      C.tr false (T.arr 1 r7.p.2.length (cutT 0 r7.p.2.length (eL 1 rowI r7.p.2).fn)),
      C.tr false (T.arr 1 r7.p.3.length (cutT 0 r7.p.3.length (eL 1 rowI r7.p.3).fn)),
      C.tr false (T.arr 13 r7.3.length (cutT 0 r7.3.length (eL 13 Nd.cs r7.3).fn)),
      C.tr false (T.arr 5 r7.4.length (cutT 0 r7.4.length (eL 5 Ws.cs r7.4).fn)),
      C.tr false (T.arr 1 r7.5.length (cutT 0 r7.5.length (eL 1 rowI r7.5).fn))]),
  (0, true,
    [C.tr false (T.int IntKind.i64 r11.c.1), C.tr false (T.int IntKind.i64 r11.c.2),
      C.tr false (T.int IntKind.i64 r11.c.3), C.tr false (T.int IntKind.i64 r11.c.4),
      C.tr false (T.int IntKind.i64 r11.c.5), C.tr false (T.int IntKind.i64 r11.c.6),
      C.tr false (T.arr 1 r11.p.1.length (cutT 0 r11.p.1.length (eL 1 rowB r11.p.1).fn)),
      C.tr false (T.arr 1 r11.p.2.length (cutT 0 r11.p.2.length (eL 1 rowI r11.p.2).fn)),
      C.tr false (T.arr 1 r11.p.3.length (cutT 0 r11.p.3.length (eL 1 rowI r11.p.3).fn)),
      C.tr false (T.arr 13 r11.3.length (cutT 0 r11.3.length (eL 13 Nd.cs r11.3).fn)),
      C.tr false (T.arr 5 r11.4.length (cutT 0 r11.4.length (eL 5 Ws.cs r11.4).fn)),
      C.tr false (T.arr 1 r11.5.length (cutT 0 r11.5.length (eL 1 rowI r11.5).fn))])] fun (r12 : Bool) =>
 bif !r12 then
  K .ret [(16, ⟨z0, [(false, [.tr true (T.bool false)])]⟩)]
 else
 K .normal (sq_xReused_13 a b)) := by kernel_rfl
def sq_xReused_14 (a : Wd) (b : Wd) : St := [(16, ⟨z0, [(false, [.tr true (T.bool true)])]⟩)]
theorem sg_xReused_13 (a : Wd) (b : Wd) (n : Nat) (K : Ex → St → Res) : atP prog (tabS [(i_SzWd, e_SzWd), (i_ToWd, e_ToWd), (i_sReused, e_sReused), (i_iReused, e_iReused), (i_EqWd, e_EqWd)]) kp_xReused F_xReused [1, 1, 1, 1, 1, 1, 1, 1, 1, 1, 1, 1, 1, 0] n (sq_xReused_13 a b) K = (
 K .normal (sq_xReused_14 a b)) := by kernel_rfl
theorem sg_xReused_14 (a : Wd) (b : Wd) (n : Nat) (K : Ex → St → Res) : atP prog (tabS [(i_SzWd, e_SzWd), (i_ToWd, e_ToWd), (i_sReused, e_sReused), (i_iReused, e_iReused), (i_EqWd, e_EqWd)]) kp_xReused F_xReused [1, 1, 1, 1, 1, 1, 1, 1, 1, 1, 1, 1, 1, 1] n (sq_xReused_14 a b) K = (
 K .ret [(16, ⟨z0, [(false, [.tr true (T.bool true)])]⟩)]) := by kernel_rfl
theorem body_xReused (a : Wd) (b : Wd) (ha : z_Wd a) (hb : z_Wd b) (n : Nat) : body prog (tabS [(i_SzWd, e_SzWd), (i_ToWd, e_ToWd), (i_sReused, e_sReused), (i_iReused, e_iReused), (i_EqWd, e_EqWd)]) kp_xReused n F_xReused [aR a.cs, aR b.cs] = some (erB 2 true) := by
  have hzm := zm
  have hlm := lm
  have hbm := bm
  rw [body_at _ _ _ _ _ _ (by kernel_rfl), show initA F_xReused.ntmps 0 [aR a.cs, aR b.cs] = sq_xReused_0 a b from by kernel_rfl]
  have y0 : ok_SzWd (a, 1048576) := ⟨ha, by dsimp only; omega, by dsimp only; omega⟩
  by_cases e0 : (n_Wd a : Int) ≤ 1048576
  case neg =>
    rw [atP_seq (p := []) (q0 := [0]) (q1 := [1]) (by kernel_rfl) rfl rfl]
    rw [sg_xReused_0]
    simp only [lt_d, ge0_d, Int.toNat_natCast, blt_d, ble_self, beq_self, decide_true, cond_true, Bool.and_self, Bool.and_true, Bool.true_and, gd_true, Nat.zero_add, List.getD_cons_zero, List.getD_cons_succ, isI_int, toI_int, isB_bool, toB_bool, eL_T, arr_ln, arr_fn, arr_wd, arr_is, arr_get, eL_T, arr_fn, cut_all, bool_self, bool_nself, int_self, int_nself, Bool.not_true, Bool.not_false, cond_false, cond_true, nextP_n, nextP_r, Wd.cs, entK_of (dm_SzWd y0) (iv_SzWd y0), n_SzWd e0, decide_eq_true (show (-1 : Int) < 0 by omega)]
    rw [atP_seq (p := [1]) (q0 := [1, 0]) (q1 := [1, 1]) (by kernel_rfl) rfl rfl]
    rw [sg_xReused_1]
    simp only [lt_d, ge0_d, Int.toNat_natCast, blt_d, ble_self, beq_self, decide_true, cond_true, Bool.and_self, Bool.and_true, Bool.true_and, gd_true, Nat.zero_add, List.getD_cons_zero, List.getD_cons_succ, isI_int, toI_int, isB_bool, toB_bool, eL_T, arr_ln, arr_fn, arr_wd, arr_is, arr_get, eL_T, arr_fn, cut_all, bool_self, bool_nself, int_self, int_nself, Bool.not_true, Bool.not_false, cond_false, cond_true, nextP_n, nextP_r, Wd.cs, entK_of (dm_SzWd y0) (iv_SzWd y0), n_SzWd e0, decide_eq_true (show (-1 : Int) < 0 by omega)]
    rw [atP_seq (p := [1, 1]) (q0 := [1, 1, 0]) (q1 := [1, 1, 1]) (by kernel_rfl) rfl rfl]
    rw [sg_xReused_2]
    simp only [lt_d, ge0_d, Int.toNat_natCast, blt_d, ble_self, beq_self, decide_true, cond_true, Bool.and_self, Bool.and_true, Bool.true_and, gd_true, Nat.zero_add, List.getD_cons_zero, List.getD_cons_succ, isI_int, toI_int, isB_bool, toB_bool, eL_T, arr_ln, arr_fn, arr_wd, arr_is, arr_get, eL_T, arr_fn, cut_all, bool_self, bool_nself, int_self, int_nself, Bool.not_true, Bool.not_false, cond_false, cond_true, nextP_n, nextP_r, Wd.cs, entK_of (dm_SzWd y0) (iv_SzWd y0), n_SzWd e0, decide_eq_true (show (-1 : Int) < 0 by omega)]
    rw [atP_seq (p := [1, 1, 1]) (q0 := [1, 1, 1, 0]) (q1 := [1, 1, 1, 1]) (by kernel_rfl) rfl rfl]
    rw [sg_xReused_3]
    simp only [lt_d, ge0_d, Int.toNat_natCast, blt_d, ble_self, beq_self, decide_true, cond_true, Bool.and_self, Bool.and_true, Bool.true_and, gd_true, Nat.zero_add, List.getD_cons_zero, List.getD_cons_succ, isI_int, toI_int, isB_bool, toB_bool, eL_T, arr_ln, arr_fn, arr_wd, arr_is, arr_get, eL_T, arr_fn, cut_all, bool_self, bool_nself, int_self, int_nself, Bool.not_true, Bool.not_false, cond_false, cond_true, nextP_n, nextP_r, Wd.cs, entK_of (dm_SzWd y0) (iv_SzWd y0), n_SzWd e0, decide_eq_true (show (-1 : Int) < 0 by omega)]
    rfl
  have f0 : ¬ 1048576 - (n_Wd a : Int) < 0 := by omega
  have y1 : ok_SzWd (b, 1048576 - (n_Wd a : Int)) := ⟨hb, by dsimp only; omega, by dsimp only; omega⟩
  by_cases e1 : (n_Wd b : Int) ≤ 1048576 - (n_Wd a : Int)
  case neg =>
    rw [atP_seq (p := []) (q0 := [0]) (q1 := [1]) (by kernel_rfl) rfl rfl]
    rw [sg_xReused_0]
    simp only [lt_d, ge0_d, Int.toNat_natCast, blt_d, ble_self, beq_self, decide_true, cond_true, Bool.and_self, Bool.and_true, Bool.true_and, gd_true, Nat.zero_add, List.getD_cons_zero, List.getD_cons_succ, isI_int, toI_int, isB_bool, toB_bool, eL_T, arr_ln, arr_fn, arr_wd, arr_is, arr_get, eL_T, arr_fn, cut_all, bool_self, bool_nself, int_self, int_nself, Bool.not_true, Bool.not_false, cond_false, cond_true, nextP_n, nextP_r, Wd.cs, entK_of (dm_SzWd y0) (iv_SzWd y0), y_SzWd e0, decide_eq_false f0, entK_of (dm_SzWd y1) (iv_SzWd y1), n_SzWd e1, decide_eq_true (show (-1 : Int) < 0 by omega)]
    rw [atP_seq (p := [1]) (q0 := [1, 0]) (q1 := [1, 1]) (by kernel_rfl) rfl rfl]
    rw [sg_xReused_1]
    simp only [lt_d, ge0_d, Int.toNat_natCast, blt_d, ble_self, beq_self, decide_true, cond_true, Bool.and_self, Bool.and_true, Bool.true_and, gd_true, Nat.zero_add, List.getD_cons_zero, List.getD_cons_succ, isI_int, toI_int, isB_bool, toB_bool, eL_T, arr_ln, arr_fn, arr_wd, arr_is, arr_get, eL_T, arr_fn, cut_all, bool_self, bool_nself, int_self, int_nself, Bool.not_true, Bool.not_false, cond_false, cond_true, nextP_n, nextP_r, Wd.cs, entK_of (dm_SzWd y0) (iv_SzWd y0), y_SzWd e0, decide_eq_false f0, entK_of (dm_SzWd y1) (iv_SzWd y1), n_SzWd e1, decide_eq_true (show (-1 : Int) < 0 by omega)]
    rw [atP_seq (p := [1, 1]) (q0 := [1, 1, 0]) (q1 := [1, 1, 1]) (by kernel_rfl) rfl rfl]
    rw [sg_xReused_2]
    simp only [lt_d, ge0_d, Int.toNat_natCast, blt_d, ble_self, beq_self, decide_true, cond_true, Bool.and_self, Bool.and_true, Bool.true_and, gd_true, Nat.zero_add, List.getD_cons_zero, List.getD_cons_succ, isI_int, toI_int, isB_bool, toB_bool, eL_T, arr_ln, arr_fn, arr_wd, arr_is, arr_get, eL_T, arr_fn, cut_all, bool_self, bool_nself, int_self, int_nself, Bool.not_true, Bool.not_false, cond_false, cond_true, nextP_n, nextP_r, Wd.cs, entK_of (dm_SzWd y0) (iv_SzWd y0), y_SzWd e0, decide_eq_false f0, entK_of (dm_SzWd y1) (iv_SzWd y1), n_SzWd e1, decide_eq_true (show (-1 : Int) < 0 by omega)]
    rw [atP_seq (p := [1, 1, 1]) (q0 := [1, 1, 1, 0]) (q1 := [1, 1, 1, 1]) (by kernel_rfl) rfl rfl]
    rw [sg_xReused_3]
    simp only [lt_d, ge0_d, Int.toNat_natCast, blt_d, ble_self, beq_self, decide_true, cond_true, Bool.and_self, Bool.and_true, Bool.true_and, gd_true, Nat.zero_add, List.getD_cons_zero, List.getD_cons_succ, isI_int, toI_int, isB_bool, toB_bool, eL_T, arr_ln, arr_fn, arr_wd, arr_is, arr_get, eL_T, arr_fn, cut_all, bool_self, bool_nself, int_self, int_nself, Bool.not_true, Bool.not_false, cond_false, cond_true, nextP_n, nextP_r, Wd.cs, entK_of (dm_SzWd y0) (iv_SzWd y0), y_SzWd e0, decide_eq_false f0, entK_of (dm_SzWd y1) (iv_SzWd y1), n_SzWd e1, decide_eq_true (show (-1 : Int) < 0 by omega)]
    rw [atP_seq (p := [1, 1, 1, 1]) (q0 := [1, 1, 1, 1, 0]) (q1 := [1, 1, 1, 1, 1]) (by kernel_rfl) rfl rfl]
    rw [sg_xReused_4]
    simp only [lt_d, ge0_d, Int.toNat_natCast, blt_d, ble_self, beq_self, decide_true, cond_true, Bool.and_self, Bool.and_true, Bool.true_and, gd_true, Nat.zero_add, List.getD_cons_zero, List.getD_cons_succ, isI_int, toI_int, isB_bool, toB_bool, eL_T, arr_ln, arr_fn, arr_wd, arr_is, arr_get, eL_T, arr_fn, cut_all, bool_self, bool_nself, int_self, int_nself, Bool.not_true, Bool.not_false, cond_false, cond_true, nextP_n, nextP_r, Wd.cs, entK_of (dm_SzWd y0) (iv_SzWd y0), y_SzWd e0, decide_eq_false f0, entK_of (dm_SzWd y1) (iv_SzWd y1), n_SzWd e1, decide_eq_true (show (-1 : Int) < 0 by omega)]
    rw [atP_seq (p := [1, 1, 1, 1, 1]) (q0 := [1, 1, 1, 1, 1, 0]) (q1 := [1, 1, 1, 1, 1, 1]) (by kernel_rfl) rfl rfl]
    rw [sg_xReused_5]
    simp only [lt_d, ge0_d, Int.toNat_natCast, blt_d, ble_self, beq_self, decide_true, cond_true, Bool.and_self, Bool.and_true, Bool.true_and, gd_true, Nat.zero_add, List.getD_cons_zero, List.getD_cons_succ, isI_int, toI_int, isB_bool, toB_bool, eL_T, arr_ln, arr_fn, arr_wd, arr_is, arr_get, eL_T, arr_fn, cut_all, bool_self, bool_nself, int_self, int_nself, Bool.not_true, Bool.not_false, cond_false, cond_true, nextP_n, nextP_r, Wd.cs, entK_of (dm_SzWd y0) (iv_SzWd y0), y_SzWd e0, decide_eq_false f0, entK_of (dm_SzWd y1) (iv_SzWd y1), n_SzWd e1, decide_eq_true (show (-1 : Int) < 0 by omega)]
    rfl
  have f1 : ¬ 1048576 - (n_Wd a : Int) - (n_Wd b : Int) < 0 := by omega
  obtain ⟨g0, q0⟩ := okn_Wd (l := a) (by omega)
  obtain ⟨g1, q1⟩ := okn_Wd (l := b) (by omega)
  have c0 : ok_sReused (a, b) := ⟨g0.2.2.2.1.1, g1.2.2.2.1.1⟩
  have c1 : ok_iReused (a, b) := ⟨g0.2.2.2.1.1, g1.2.2.2.1.1⟩
  have c2 : ok_EqWd (a, a) := q0
  have c3 : ok_EqWd (b, b) := q1
  rw [atP_seq (p := []) (q0 := [0]) (q1 := [1]) (by kernel_rfl) rfl rfl]
  rw [sg_xReused_0]
  simp only [lt_d, ge0_d, Int.toNat_natCast, blt_d, ble_self, beq_self, decide_true, cond_true, Bool.and_self, Bool.and_true, Bool.true_and, gd_true, Nat.zero_add, List.getD_cons_zero, List.getD_cons_succ, isI_int, toI_int, isB_bool, toB_bool, eL_T, arr_ln, arr_fn, arr_wd, arr_is, arr_get, eL_T, arr_fn, cut_all, bool_self, bool_nself, int_self, int_nself, Bool.not_true, Bool.not_false, cond_false, cond_true, nextP_n, nextP_r, Wd.cs, entK_of (dm_SzWd y0) (iv_SzWd y0), y_SzWd e0, decide_eq_false f0, entK_of (dm_SzWd y1) (iv_SzWd y1), y_SzWd e1, decide_eq_false f1, entK_of (dm_ToWd g0) (iv_ToWd g0), d_ToWd, entK_of (dm_ToWd g1) (iv_ToWd g1), entK_of (dm_sReused c0) (iv_sReused c0), d_sReused, entK_of (dm_iReused c1) (iv_iReused c1), d_iReused, entK_of (dm_EqWd c2) (iv_EqWd c2), d_EqWd, entK_of (dm_EqWd c3) (iv_EqWd c3)]
  rw [atP_seq (p := [1]) (q0 := [1, 0]) (q1 := [1, 1]) (by kernel_rfl) rfl rfl]
  rw [sg_xReused_1]
  simp only [lt_d, ge0_d, Int.toNat_natCast, blt_d, ble_self, beq_self, decide_true, cond_true, Bool.and_self, Bool.and_true, Bool.true_and, gd_true, Nat.zero_add, List.getD_cons_zero, List.getD_cons_succ, isI_int, toI_int, isB_bool, toB_bool, eL_T, arr_ln, arr_fn, arr_wd, arr_is, arr_get, eL_T, arr_fn, cut_all, bool_self, bool_nself, int_self, int_nself, Bool.not_true, Bool.not_false, cond_false, cond_true, nextP_n, nextP_r, Wd.cs, entK_of (dm_SzWd y0) (iv_SzWd y0), y_SzWd e0, decide_eq_false f0, entK_of (dm_SzWd y1) (iv_SzWd y1), y_SzWd e1, decide_eq_false f1, entK_of (dm_ToWd g0) (iv_ToWd g0), d_ToWd, entK_of (dm_ToWd g1) (iv_ToWd g1), entK_of (dm_sReused c0) (iv_sReused c0), d_sReused, entK_of (dm_iReused c1) (iv_iReused c1), d_iReused, entK_of (dm_EqWd c2) (iv_EqWd c2), d_EqWd, entK_of (dm_EqWd c3) (iv_EqWd c3)]
  rw [atP_seq (p := [1, 1]) (q0 := [1, 1, 0]) (q1 := [1, 1, 1]) (by kernel_rfl) rfl rfl]
  rw [sg_xReused_2]
  simp only [lt_d, ge0_d, Int.toNat_natCast, blt_d, ble_self, beq_self, decide_true, cond_true, Bool.and_self, Bool.and_true, Bool.true_and, gd_true, Nat.zero_add, List.getD_cons_zero, List.getD_cons_succ, isI_int, toI_int, isB_bool, toB_bool, eL_T, arr_ln, arr_fn, arr_wd, arr_is, arr_get, eL_T, arr_fn, cut_all, bool_self, bool_nself, int_self, int_nself, Bool.not_true, Bool.not_false, cond_false, cond_true, nextP_n, nextP_r, Wd.cs, entK_of (dm_SzWd y0) (iv_SzWd y0), y_SzWd e0, decide_eq_false f0, entK_of (dm_SzWd y1) (iv_SzWd y1), y_SzWd e1, decide_eq_false f1, entK_of (dm_ToWd g0) (iv_ToWd g0), d_ToWd, entK_of (dm_ToWd g1) (iv_ToWd g1), entK_of (dm_sReused c0) (iv_sReused c0), d_sReused, entK_of (dm_iReused c1) (iv_iReused c1), d_iReused, entK_of (dm_EqWd c2) (iv_EqWd c2), d_EqWd, entK_of (dm_EqWd c3) (iv_EqWd c3)]
  rw [atP_seq (p := [1, 1, 1]) (q0 := [1, 1, 1, 0]) (q1 := [1, 1, 1, 1]) (by kernel_rfl) rfl rfl]
  rw [sg_xReused_3]
  simp only [lt_d, ge0_d, Int.toNat_natCast, blt_d, ble_self, beq_self, decide_true, cond_true, Bool.and_self, Bool.and_true, Bool.true_and, gd_true, Nat.zero_add, List.getD_cons_zero, List.getD_cons_succ, isI_int, toI_int, isB_bool, toB_bool, eL_T, arr_ln, arr_fn, arr_wd, arr_is, arr_get, eL_T, arr_fn, cut_all, bool_self, bool_nself, int_self, int_nself, Bool.not_true, Bool.not_false, cond_false, cond_true, nextP_n, nextP_r, Wd.cs, entK_of (dm_SzWd y0) (iv_SzWd y0), y_SzWd e0, decide_eq_false f0, entK_of (dm_SzWd y1) (iv_SzWd y1), y_SzWd e1, decide_eq_false f1, entK_of (dm_ToWd g0) (iv_ToWd g0), d_ToWd, entK_of (dm_ToWd g1) (iv_ToWd g1), entK_of (dm_sReused c0) (iv_sReused c0), d_sReused, entK_of (dm_iReused c1) (iv_iReused c1), d_iReused, entK_of (dm_EqWd c2) (iv_EqWd c2), d_EqWd, entK_of (dm_EqWd c3) (iv_EqWd c3)]
  rw [atP_seq (p := [1, 1, 1, 1]) (q0 := [1, 1, 1, 1, 0]) (q1 := [1, 1, 1, 1, 1]) (by kernel_rfl) rfl rfl]
  rw [sg_xReused_4]
  simp only [lt_d, ge0_d, Int.toNat_natCast, blt_d, ble_self, beq_self, decide_true, cond_true, Bool.and_self, Bool.and_true, Bool.true_and, gd_true, Nat.zero_add, List.getD_cons_zero, List.getD_cons_succ, isI_int, toI_int, isB_bool, toB_bool, eL_T, arr_ln, arr_fn, arr_wd, arr_is, arr_get, eL_T, arr_fn, cut_all, bool_self, bool_nself, int_self, int_nself, Bool.not_true, Bool.not_false, cond_false, cond_true, nextP_n, nextP_r, Wd.cs, entK_of (dm_SzWd y0) (iv_SzWd y0), y_SzWd e0, decide_eq_false f0, entK_of (dm_SzWd y1) (iv_SzWd y1), y_SzWd e1, decide_eq_false f1, entK_of (dm_ToWd g0) (iv_ToWd g0), d_ToWd, entK_of (dm_ToWd g1) (iv_ToWd g1), entK_of (dm_sReused c0) (iv_sReused c0), d_sReused, entK_of (dm_iReused c1) (iv_iReused c1), d_iReused, entK_of (dm_EqWd c2) (iv_EqWd c2), d_EqWd, entK_of (dm_EqWd c3) (iv_EqWd c3)]
  rw [atP_seq (p := [1, 1, 1, 1, 1]) (q0 := [1, 1, 1, 1, 1, 0]) (q1 := [1, 1, 1, 1, 1, 1]) (by kernel_rfl) rfl rfl]
  rw [sg_xReused_5]
  simp only [lt_d, ge0_d, Int.toNat_natCast, blt_d, ble_self, beq_self, decide_true, cond_true, Bool.and_self, Bool.and_true, Bool.true_and, gd_true, Nat.zero_add, List.getD_cons_zero, List.getD_cons_succ, isI_int, toI_int, isB_bool, toB_bool, eL_T, arr_ln, arr_fn, arr_wd, arr_is, arr_get, eL_T, arr_fn, cut_all, bool_self, bool_nself, int_self, int_nself, Bool.not_true, Bool.not_false, cond_false, cond_true, nextP_n, nextP_r, Wd.cs, entK_of (dm_SzWd y0) (iv_SzWd y0), y_SzWd e0, decide_eq_false f0, entK_of (dm_SzWd y1) (iv_SzWd y1), y_SzWd e1, decide_eq_false f1, entK_of (dm_ToWd g0) (iv_ToWd g0), d_ToWd, entK_of (dm_ToWd g1) (iv_ToWd g1), entK_of (dm_sReused c0) (iv_sReused c0), d_sReused, entK_of (dm_iReused c1) (iv_iReused c1), d_iReused, entK_of (dm_EqWd c2) (iv_EqWd c2), d_EqWd, entK_of (dm_EqWd c3) (iv_EqWd c3)]
  rw [atP_seq (p := [1, 1, 1, 1, 1, 1]) (q0 := [1, 1, 1, 1, 1, 1, 0]) (q1 := [1, 1, 1, 1, 1, 1, 1]) (by kernel_rfl) rfl rfl]
  rw [sg_xReused_6]
  simp only [lt_d, ge0_d, Int.toNat_natCast, blt_d, ble_self, beq_self, decide_true, cond_true, Bool.and_self, Bool.and_true, Bool.true_and, gd_true, Nat.zero_add, List.getD_cons_zero, List.getD_cons_succ, isI_int, toI_int, isB_bool, toB_bool, eL_T, arr_ln, arr_fn, arr_wd, arr_is, arr_get, eL_T, arr_fn, cut_all, bool_self, bool_nself, int_self, int_nself, Bool.not_true, Bool.not_false, cond_false, cond_true, nextP_n, nextP_r, Wd.cs, entK_of (dm_SzWd y0) (iv_SzWd y0), y_SzWd e0, decide_eq_false f0, entK_of (dm_SzWd y1) (iv_SzWd y1), y_SzWd e1, decide_eq_false f1, entK_of (dm_ToWd g0) (iv_ToWd g0), d_ToWd, entK_of (dm_ToWd g1) (iv_ToWd g1), entK_of (dm_sReused c0) (iv_sReused c0), d_sReused, entK_of (dm_iReused c1) (iv_iReused c1), d_iReused, entK_of (dm_EqWd c2) (iv_EqWd c2), d_EqWd, entK_of (dm_EqWd c3) (iv_EqWd c3)]
  rw [atP_seq (p := [1, 1, 1, 1, 1, 1, 1]) (q0 := [1, 1, 1, 1, 1, 1, 1, 0]) (q1 := [1, 1, 1, 1, 1, 1, 1, 1]) (by kernel_rfl) rfl rfl]
  rw [sg_xReused_7]
  simp only [lt_d, ge0_d, Int.toNat_natCast, blt_d, ble_self, beq_self, decide_true, cond_true, Bool.and_self, Bool.and_true, Bool.true_and, gd_true, Nat.zero_add, List.getD_cons_zero, List.getD_cons_succ, isI_int, toI_int, isB_bool, toB_bool, eL_T, arr_ln, arr_fn, arr_wd, arr_is, arr_get, eL_T, arr_fn, cut_all, bool_self, bool_nself, int_self, int_nself, Bool.not_true, Bool.not_false, cond_false, cond_true, nextP_n, nextP_r, Wd.cs, entK_of (dm_SzWd y0) (iv_SzWd y0), y_SzWd e0, decide_eq_false f0, entK_of (dm_SzWd y1) (iv_SzWd y1), y_SzWd e1, decide_eq_false f1, entK_of (dm_ToWd g0) (iv_ToWd g0), d_ToWd, entK_of (dm_ToWd g1) (iv_ToWd g1), entK_of (dm_sReused c0) (iv_sReused c0), d_sReused, entK_of (dm_iReused c1) (iv_iReused c1), d_iReused, entK_of (dm_EqWd c2) (iv_EqWd c2), d_EqWd, entK_of (dm_EqWd c3) (iv_EqWd c3)]
  rw [atP_seq (p := [1, 1, 1, 1, 1, 1, 1, 1]) (q0 := [1, 1, 1, 1, 1, 1, 1, 1, 0]) (q1 := [1, 1, 1, 1, 1, 1, 1, 1, 1]) (by kernel_rfl) rfl rfl]
  rw [sg_xReused_8]
  simp only [lt_d, ge0_d, Int.toNat_natCast, blt_d, ble_self, beq_self, decide_true, cond_true, Bool.and_self, Bool.and_true, Bool.true_and, gd_true, Nat.zero_add, List.getD_cons_zero, List.getD_cons_succ, isI_int, toI_int, isB_bool, toB_bool, eL_T, arr_ln, arr_fn, arr_wd, arr_is, arr_get, eL_T, arr_fn, cut_all, bool_self, bool_nself, int_self, int_nself, Bool.not_true, Bool.not_false, cond_false, cond_true, nextP_n, nextP_r, Wd.cs, entK_of (dm_SzWd y0) (iv_SzWd y0), y_SzWd e0, decide_eq_false f0, entK_of (dm_SzWd y1) (iv_SzWd y1), y_SzWd e1, decide_eq_false f1, entK_of (dm_ToWd g0) (iv_ToWd g0), d_ToWd, entK_of (dm_ToWd g1) (iv_ToWd g1), entK_of (dm_sReused c0) (iv_sReused c0), d_sReused, entK_of (dm_iReused c1) (iv_iReused c1), d_iReused, entK_of (dm_EqWd c2) (iv_EqWd c2), d_EqWd, entK_of (dm_EqWd c3) (iv_EqWd c3)]
  rw [atP_seq (p := [1, 1, 1, 1, 1, 1, 1, 1, 1]) (q0 := [1, 1, 1, 1, 1, 1, 1, 1, 1, 0]) (q1 := [1, 1, 1, 1, 1, 1, 1, 1, 1, 1]) (by kernel_rfl) rfl rfl]
  rw [sg_xReused_9]
  simp only [lt_d, ge0_d, Int.toNat_natCast, blt_d, ble_self, beq_self, decide_true, cond_true, Bool.and_self, Bool.and_true, Bool.true_and, gd_true, Nat.zero_add, List.getD_cons_zero, List.getD_cons_succ, isI_int, toI_int, isB_bool, toB_bool, eL_T, arr_ln, arr_fn, arr_wd, arr_is, arr_get, eL_T, arr_fn, cut_all, bool_self, bool_nself, int_self, int_nself, Bool.not_true, Bool.not_false, cond_false, cond_true, nextP_n, nextP_r, Wd.cs, entK_of (dm_SzWd y0) (iv_SzWd y0), y_SzWd e0, decide_eq_false f0, entK_of (dm_SzWd y1) (iv_SzWd y1), y_SzWd e1, decide_eq_false f1, entK_of (dm_ToWd g0) (iv_ToWd g0), d_ToWd, entK_of (dm_ToWd g1) (iv_ToWd g1), entK_of (dm_sReused c0) (iv_sReused c0), d_sReused, entK_of (dm_iReused c1) (iv_iReused c1), d_iReused, entK_of (dm_EqWd c2) (iv_EqWd c2), d_EqWd, entK_of (dm_EqWd c3) (iv_EqWd c3)]
  rw [atP_seq (p := [1, 1, 1, 1, 1, 1, 1, 1, 1, 1]) (q0 := [1, 1, 1, 1, 1, 1, 1, 1, 1, 1, 0]) (q1 := [1, 1, 1, 1, 1, 1, 1, 1, 1, 1, 1]) (by kernel_rfl) rfl rfl]
  rw [sg_xReused_10]
  simp only [lt_d, ge0_d, Int.toNat_natCast, blt_d, ble_self, beq_self, decide_true, cond_true, Bool.and_self, Bool.and_true, Bool.true_and, gd_true, Nat.zero_add, List.getD_cons_zero, List.getD_cons_succ, isI_int, toI_int, isB_bool, toB_bool, eL_T, arr_ln, arr_fn, arr_wd, arr_is, arr_get, eL_T, arr_fn, cut_all, bool_self, bool_nself, int_self, int_nself, Bool.not_true, Bool.not_false, cond_false, cond_true, nextP_n, nextP_r, Wd.cs, entK_of (dm_SzWd y0) (iv_SzWd y0), y_SzWd e0, decide_eq_false f0, entK_of (dm_SzWd y1) (iv_SzWd y1), y_SzWd e1, decide_eq_false f1, entK_of (dm_ToWd g0) (iv_ToWd g0), d_ToWd, entK_of (dm_ToWd g1) (iv_ToWd g1), entK_of (dm_sReused c0) (iv_sReused c0), d_sReused, entK_of (dm_iReused c1) (iv_iReused c1), d_iReused, entK_of (dm_EqWd c2) (iv_EqWd c2), d_EqWd, entK_of (dm_EqWd c3) (iv_EqWd c3)]
  rw [atP_seq (p := [1, 1, 1, 1, 1, 1, 1, 1, 1, 1, 1]) (q0 := [1, 1, 1, 1, 1, 1, 1, 1, 1, 1, 1, 0]) (q1 := [1, 1, 1, 1, 1, 1, 1, 1, 1, 1, 1, 1]) (by kernel_rfl) rfl rfl]
  rw [sg_xReused_11]
  simp only [lt_d, ge0_d, Int.toNat_natCast, blt_d, ble_self, beq_self, decide_true, cond_true, Bool.and_self, Bool.and_true, Bool.true_and, gd_true, Nat.zero_add, List.getD_cons_zero, List.getD_cons_succ, isI_int, toI_int, isB_bool, toB_bool, eL_T, arr_ln, arr_fn, arr_wd, arr_is, arr_get, eL_T, arr_fn, cut_all, bool_self, bool_nself, int_self, int_nself, Bool.not_true, Bool.not_false, cond_false, cond_true, nextP_n, nextP_r, Wd.cs, entK_of (dm_SzWd y0) (iv_SzWd y0), y_SzWd e0, decide_eq_false f0, entK_of (dm_SzWd y1) (iv_SzWd y1), y_SzWd e1, decide_eq_false f1, entK_of (dm_ToWd g0) (iv_ToWd g0), d_ToWd, entK_of (dm_ToWd g1) (iv_ToWd g1), entK_of (dm_sReused c0) (iv_sReused c0), d_sReused, entK_of (dm_iReused c1) (iv_iReused c1), d_iReused, entK_of (dm_EqWd c2) (iv_EqWd c2), d_EqWd, entK_of (dm_EqWd c3) (iv_EqWd c3)]
  rw [atP_seq (p := [1, 1, 1, 1, 1, 1, 1, 1, 1, 1, 1, 1]) (q0 := [1, 1, 1, 1, 1, 1, 1, 1, 1, 1, 1, 1, 0]) (q1 := [1, 1, 1, 1, 1, 1, 1, 1, 1, 1, 1, 1, 1]) (by kernel_rfl) rfl rfl]
  rw [sg_xReused_12]
  simp only [lt_d, ge0_d, Int.toNat_natCast, blt_d, ble_self, beq_self, decide_true, cond_true, Bool.and_self, Bool.and_true, Bool.true_and, gd_true, Nat.zero_add, List.getD_cons_zero, List.getD_cons_succ, isI_int, toI_int, isB_bool, toB_bool, eL_T, arr_ln, arr_fn, arr_wd, arr_is, arr_get, eL_T, arr_fn, cut_all, bool_self, bool_nself, int_self, int_nself, Bool.not_true, Bool.not_false, cond_false, cond_true, nextP_n, nextP_r, Wd.cs, entK_of (dm_SzWd y0) (iv_SzWd y0), y_SzWd e0, decide_eq_false f0, entK_of (dm_SzWd y1) (iv_SzWd y1), y_SzWd e1, decide_eq_false f1, entK_of (dm_ToWd g0) (iv_ToWd g0), d_ToWd, entK_of (dm_ToWd g1) (iv_ToWd g1), entK_of (dm_sReused c0) (iv_sReused c0), d_sReused, entK_of (dm_iReused c1) (iv_iReused c1), d_iReused, entK_of (dm_EqWd c2) (iv_EqWd c2), d_EqWd, entK_of (dm_EqWd c3) (iv_EqWd c3)]
  rw [atP_seq (p := [1, 1, 1, 1, 1, 1, 1, 1, 1, 1, 1, 1, 1]) (q0 := [1, 1, 1, 1, 1, 1, 1, 1, 1, 1, 1, 1, 1, 0]) (q1 := [1, 1, 1, 1, 1, 1, 1, 1, 1, 1, 1, 1, 1, 1]) (by kernel_rfl) rfl rfl]
  rw [sg_xReused_13]
  simp only [lt_d, ge0_d, Int.toNat_natCast, blt_d, ble_self, beq_self, decide_true, cond_true, Bool.and_self, Bool.and_true, Bool.true_and, gd_true, Nat.zero_add, List.getD_cons_zero, List.getD_cons_succ, isI_int, toI_int, isB_bool, toB_bool, eL_T, arr_ln, arr_fn, arr_wd, arr_is, arr_get, eL_T, arr_fn, cut_all, bool_self, bool_nself, int_self, int_nself, Bool.not_true, Bool.not_false, cond_false, cond_true, nextP_n, nextP_r, Wd.cs, entK_of (dm_SzWd y0) (iv_SzWd y0), y_SzWd e0, decide_eq_false f0, entK_of (dm_SzWd y1) (iv_SzWd y1), y_SzWd e1, decide_eq_false f1, entK_of (dm_ToWd g0) (iv_ToWd g0), d_ToWd, entK_of (dm_ToWd g1) (iv_ToWd g1), entK_of (dm_sReused c0) (iv_sReused c0), d_sReused, entK_of (dm_iReused c1) (iv_iReused c1), d_iReused, entK_of (dm_EqWd c2) (iv_EqWd c2), d_EqWd, entK_of (dm_EqWd c3) (iv_EqWd c3)]
  rw [sg_xReused_14]
  try simp only [lt_d, ge0_d, Int.toNat_natCast, blt_d, ble_self, beq_self, decide_true, cond_true, Bool.and_self, Bool.and_true, Bool.true_and, gd_true, Nat.zero_add, List.getD_cons_zero, List.getD_cons_succ, isI_int, toI_int, isB_bool, toB_bool, eL_T, arr_ln, arr_fn, arr_wd, arr_is, arr_get, eL_T, arr_fn, cut_all, bool_self, bool_nself, int_self, int_nself, Bool.not_true, Bool.not_false, cond_false, cond_true, nextP_n, nextP_r, Wd.cs, entK_of (dm_SzWd y0) (iv_SzWd y0), y_SzWd e0, decide_eq_false f0, entK_of (dm_SzWd y1) (iv_SzWd y1), y_SzWd e1, decide_eq_false f1, entK_of (dm_ToWd g0) (iv_ToWd g0), d_ToWd, entK_of (dm_ToWd g1) (iv_ToWd g1), entK_of (dm_sReused c0) (iv_sReused c0), d_sReused, entK_of (dm_iReused c1) (iv_iReused c1), d_iReused, entK_of (dm_EqWd c2) (iv_EqWd c2), d_EqWd, entK_of (dm_EqWd c3) (iv_EqWd c3)]
  rfl
theorem sd_xReused (a : Wd) (b : Wd) (ha : z_Wd a) (hb : z_Wd b) : Sound prog i_xReused [aR a.cs, aR b.cs] (erB 2 true).1 (erB 2 true).2 :=
  body_sound (φ := (tabS [(i_SzWd, e_SzWd), (i_ToWd, e_ToWd), (i_sReused, e_sReused), (i_iReused, e_iReused), (i_EqWd, e_EqWd)])) (tabS_cons s_SzWd (tabS_cons s_ToWd (tabS_cons s_sReused (tabS_cons s_iReused (tabS_cons s_EqWd tabS_nil))))) mixed (kp := kp_xReused) (n := 0) func3 (c := bodyOf F_xReused) (by kernel_rfl) (body_xReused a b ha hb 0) (name_ok (by kernel_rfl))
end Go.Mach.F