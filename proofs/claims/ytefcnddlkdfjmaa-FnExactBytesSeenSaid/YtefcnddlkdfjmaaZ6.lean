/- Lemmas and definitions of the proof (Yd). Conditions: none. -/
import Derived.Test.YtefcnddlkdfjmaaZ5
set_option linter.all false
section
set_option maxRecDepth 100000
set_option maxHeartbeats 4000000
namespace Go.Mach.F
open Go Go.Mach Go.Proofs.Try
def i_xBytesSeen : Nat := 5
noncomputable abbrev F_xBytesSeen : Func := f5
def kp_xBytesSeen : List (Nat × List Nat) := [(0, [8, 9, 12, 13, 24, 32, 176, 180, 184, 188]), (1, [8, 9, 12, 13, 20, 24, 32, 176, 180, 184, 188]), (2, [8, 9, 12, 13, 20, 24, 32, 176, 180, 184, 188]), (3, [8, 9, 12, 13, 24, 32, 68, 176, 180, 184, 188]), (4, [16]), (5, [8, 9, 12, 13, 24, 32, 176, 180, 184, 188]), (6, [8, 9, 12, 13, 24, 28, 29, 32, 96, 176, 180, 184, 188]), (7, [8, 9, 12, 13, 24, 28, 29, 32, 96, 176, 180, 184, 188]), (8, [8, 9, 12, 13, 24, 28, 29, 32, 96, 128, 176, 180, 184, 188]), (9, [16]), (10, [8, 9, 12, 13, 24, 28, 29, 32, 96, 148, 176, 180, 184, 188]), (11, [16]), (12, [8, 9, 12, 13, 24, 28, 29, 32, 36, 96, 176, 180, 184, 188]), (13, [8, 9, 12, 13, 24, 32, 36, 176, 180, 184, 188]), (14, [8, 9, 12, 13, 24, 32, 192]), (15, [16]), (16, [8, 9, 12, 13, 24, 32, 40]), (17, [8, 9, 12, 13, 24, 32, 40]), (18, [8, 9, 12, 13, 24, 32, 40, 44]), (19, [8, 9, 12, 13, 24, 32, 40, 44]), (20, [8, 9, 12, 13, 24, 32, 40, 44, 224]), (21, [16]), (22, [8, 9, 12, 13, 24, 32, 40, 236]), (23, [16]), (24, [24, 32, 40, 48]), (25, [32, 40, 272]), (26, [16]), (27, [32, 40, 44]), (28, [40, 44]), (29, [40, 44, 292]), (30, [16]), (31, [304]), (32, [16]), (33, [16])]
def sq_xBytesSeen_0 (w : Wd) (h : Hd) : St := initA 77 0 [aR w.cs, aR h.cs]
def ce_xBytesSeen_0 (w : Wd) : Nat × Ct := (9, ⟨z0, [(true, [.tr true (T.int IntKind.i64 w.c.1), .tr true (T.int IntKind.i64 w.c.2), .tr true (T.int IntKind.i64 w.c.3), .tr true (T.int IntKind.i64 w.c.4), .tr true (T.int IntKind.i64 w.c.5), .tr true (T.int IntKind.i64 w.c.6), .tr false (eL 1 rowB w.p.1), .tr false (eL 1 rowI w.p.2), .tr false (eL 1 rowI w.p.3), .tr false (eL 13 Nd.cs w.3), .tr false (eL 5 Ws.cs w.4), .tr false (eL 1 rowI w.5)])]⟩)
def sq_xBytesSeen_1 (w : Wd) (h : Hd) : St := [(8, ⟨z0, [(false, [(C.pt (Pt.ptr 9 0 [] 12 0 0))])]⟩), (ce_xBytesSeen_0 w), (12, ⟨z0, [(false, [(C.pt (Pt.ptr 13 0 [] 2 0 0))])]⟩), (13, ⟨z0, [(true, [.tr true (T.int IntKind.i64 h.1), .tr true (T.int IntKind.i64 h.2)])]⟩)]
theorem sg_xBytesSeen_0 (w : Wd) (h : Hd) (n : Nat) (K : Ex → St → Res) : atP prog (tabS [(i_SzWd, e_SzWd), (i_ToWd, e_ToWd), (i_toHd, e_toHd), (i_sBs, e_sBs), (i_iBs, e_iBs), (i_eqLB, e_eqLB), (i_EqWd, e_EqWd), (i_mkWd, e_mkWd), (i_mkLB, e_mkLB), (i_hdLB, e_hdLB)]) kp_xBytesSeen F_xBytesSeen [0] n (sq_xBytesSeen_0 w h) K = (
 K .normal (sq_xBytesSeen_1 w h)) := by kernel_rfl
def sq_xBytesSeen_2 (w : Wd) (h : Hd) : St := [(8, ⟨z0, [(false, [(C.pt (Pt.ptr 9 0 [] 12 0 0))])]⟩), (ce_xBytesSeen_0 w), (12, ⟨z0, [(false, [(C.pt (Pt.ptr 13 0 [] 2 0 0))])]⟩), (13, ⟨z0, [(true, [.tr true (T.int IntKind.i64 h.1), .tr true (T.int IntKind.i64 h.2)])]⟩), (20, ⟨z0, [(false, [.tr true (T.int IntKind.i64 1048576)])]⟩)]
theorem sg_xBytesSeen_1 (w : Wd) (h : Hd) (n : Nat) (K : Ex → St → Res) : atP prog (tabS [(i_SzWd, e_SzWd), (i_ToWd, e_ToWd), (i_toHd, e_toHd), (i_sBs, e_sBs), (i_iBs, e_iBs), (i_eqLB, e_eqLB), (i_EqWd, e_EqWd), (i_mkWd, e_mkWd), (i_mkLB, e_mkLB), (i_hdLB, e_hdLB)]) kp_xBytesSeen F_xBytesSeen [1, 0] n (sq_xBytesSeen_1 w h) K = (
 K .normal (sq_xBytesSeen_2 w h)) := by kernel_rfl
def sq_xBytesSeen_3 (w : Wd) (h : Hd) (r1 : Int) : St := [(8, ⟨z0, [(false, [(C.pt (Pt.ptr 9 0 [] 12 0 0))])]⟩), (ce_xBytesSeen_0 w), (12, ⟨z0, [(false, [(C.pt (Pt.ptr 13 0 [] 2 0 0))])]⟩), (13, ⟨z0, [(true, [.tr true (T.int IntKind.i64 h.1), .tr true (T.int IntKind.i64 h.2)])]⟩), (20, ⟨z0, [(false, [.tr true (T.int IntKind.i64 r1)])]⟩)]
theorem sg_xBytesSeen_2 (w : Wd) (h : Hd) (n : Nat) (K : Ex → St → Res) : atP prog (tabS [(i_SzWd, e_SzWd), (i_ToWd, e_ToWd), (i_toHd, e_toHd), (i_sBs, e_sBs), (i_iBs, e_iBs), (i_eqLB, e_eqLB), (i_EqWd, e_EqWd), (i_mkWd, e_mkWd), (i_mkLB, e_mkLB), (i_hdLB, e_hdLB)]) kp_xBytesSeen F_xBytesSeen [1, 1, 0] n (sq_xBytesSeen_2 w h) K = (
 entK ok_SzWd ea_SzWd (f_SzWd) [(0, true,
    [C.tr false (T.int IntKind.i64 w.c.1), C.tr false (T.int IntKind.i64 w.c.2),
      C.tr false (T.int IntKind.i64 w.c.3), C.tr false (T.int IntKind.i64 w.c.4),
      C.tr false (T.int IntKind.i64 w.c.5), C.tr false (T.int IntKind.i64 w.c.6), C.tr false (eL 1 rowB w.p.1),
      C.tr false (eL 1 rowI w.p.2), C.tr false (eL 1 rowI w.p.3), C.tr false (eL 13 Nd.cs w.3),
      C.tr false (eL 5 Ws.cs w.4), C.tr false (eL 1 rowI w.5)]),
  (0, false, [C.tr false (T.int IntKind.i64 1048576)])] fun (r1 : Int) =>
 K .normal (sq_xBytesSeen_3 w h r1)) := by kernel_rfl
def sq_xBytesSeen_4 (w : Wd) (h : Hd) : St := [(8, ⟨z0, [(false, [(C.pt (Pt.ptr 9 0 [] 12 0 0))])]⟩), (ce_xBytesSeen_0 w), (12, ⟨z0, [(false, [(C.pt (Pt.ptr 13 0 [] 2 0 0))])]⟩), (13, ⟨z0, [(true, [.tr true (T.int IntKind.i64 h.1), .tr true (T.int IntKind.i64 h.2)])]⟩), (68, ⟨z0, []⟩)]
theorem sg_xBytesSeen_3 (w : Wd) (h : Hd) (r1 : Int) (n : Nat) (K : Ex → St → Res) : atP prog (tabS [(i_SzWd, e_SzWd), (i_ToWd, e_ToWd), (i_toHd, e_toHd), (i_sBs, e_sBs), (i_iBs, e_iBs), (i_eqLB, e_eqLB), (i_EqWd, e_EqWd), (i_mkWd, e_mkWd), (i_mkLB, e_mkLB), (i_hdLB, e_hdLB)]) kp_xBytesSeen F_xBytesSeen [1, 1, 1, 0] n (sq_xBytesSeen_3 w h r1) K = (
 bif decide (r1 < 0) then
  K .ret [(16, ⟨z0, [(false, [.tr true (T.bool true)])]⟩)]
 else
 K .normal (sq_xBytesSeen_4 w h)) := by kernel_rfl
def sq_xBytesSeen_5 (w : Wd) (h : Hd) (r3 : List UInt8) : St := [(8, ⟨z0, [(false, [(C.pt (Pt.ptr 9 0 [] 12 0 0))])]⟩), (ce_xBytesSeen_0 w), (12, ⟨z0, [(false, [(C.pt (Pt.ptr 13 0 [] 2 0 0))])]⟩), (13, ⟨z0, [(true, [.tr true (T.int IntKind.i64 h.1), .tr true (T.int IntKind.i64 h.2)])]⟩), (24, ⟨z0, [(false, [.tr true (.arr (1) (r3.length) (atL rowB r3))])]⟩)]
theorem sg_xBytesSeen_4 (w : Wd) (h : Hd) (n : Nat) (K : Ex → St → Res) : atP prog (tabS [(i_SzWd, e_SzWd), (i_ToWd, e_ToWd), (i_toHd, e_toHd), (i_sBs, e_sBs), (i_iBs, e_iBs), (i_eqLB, e_eqLB), (i_EqWd, e_EqWd), (i_mkWd, e_mkWd), (i_mkLB, e_mkLB), (i_hdLB, e_hdLB)]) kp_xBytesSeen F_xBytesSeen [1, 1, 1, 1, 0] n (sq_xBytesSeen_4 w h) K = (
 entK ok_ToWd ea_ToWd (f_ToWd) [(0, true,
    [C.tr false (T.int IntKind.i64 w.c.1), C.tr false (T.int IntKind.i64 w.c.2),
      C.tr false (T.int IntKind.i64 w.c.3), C.tr false (T.int IntKind.i64 w.c.4),
      C.tr false (T.int IntKind.i64 w.c.5), C.tr false (T.int IntKind.i64 w.c.6), C.tr false (eL 1 rowB w.p.1),
      C.tr false (eL 1 rowI w.p.2), C.tr false (eL 1 rowI w.p.3), C.tr false (eL 13 Nd.cs w.3),
      C.tr false (eL 5 Ws.cs w.4), C.tr false (eL 1 rowI w.5)])] fun (r2 : Wd) =>
 gd ((0 + r2.p.1.length).ble r2.p.1.length) <|
 gd ((0 + r2.p.2.length).ble r2.p.2.length) <|
 gd ((0 + r2.p.3.length).ble r2.p.3.length) <|
 gd ((0 + r2.3.length).ble r2.3.length) <|
 gd ((0 + r2.4.length).ble r2.4.length) <|
 gd ((0 + r2.5.length).ble r2.5.length) <|
 entK ok_sBs ea_sBs (f_sBs) [(0, true,
    [C.tr false (T.int IntKind.i64 r2.c.1), C.tr false (T.int IntKind.i64 r2.c.2),
      C.tr false (T.int IntKind.i64 r2.c.3), C.tr false (T.int IntKind.i64 r2.c.4),
      C.tr false (T.int IntKind.i64 r2.c.5), C.tr false (T.int IntKind.i64 r2.c.6),
      C.tr false (T.arr 1 r2.p.1.length (cutT 0 r2.p.1.length (eL 1 rowB r2.p.1).fn)),
      C.tr false (T.arr 1 r2.p.2.length (cutT 0 r2.p.2.length (eL 1 rowI r2.p.2).fn)),
      C.tr false (T.arr 1 r2.p.3.length (cutT 0 r2.p.3.length (eL 1 rowI r2.p.3).fn)),
      C.tr false (T.arr 13 r2.3.length (cutT 0 r2.3.length (eL 13 Nd.cs r2.3).fn)),
      C.tr false (T.arr 5 r2.4.length (cutT 0 r2.4.length (eL 5 Ws.cs r2.4).fn)),
      C.tr false (T.arr 1 r2.5.length (cutT 0 r2.5.length (eL 1 rowI r2.5).fn))]),
  (0, true, [C.tr false (T.int IntKind.i64 h.1), C.tr false (T.int IntKind.i64 h.2)])] fun (r3 : List UInt8) =>
 gd (r3.length.ble r3.length && true) <|
 K .normal (sq_xBytesSeen_5 w h r3)) := by kernel_rfl
def ce_xBytesSeen_1 (r4 : Wd) : Nat × Ct := (29, ⟨z0, [(true, [.tr true (T.int IntKind.i64 r4.c.1), .tr true (T.int IntKind.i64 r4.c.2), .tr true (T.int IntKind.i64 r4.c.3), .tr true (T.int IntKind.i64 r4.c.4), .tr true (T.int IntKind.i64 r4.c.5), .tr true (T.int IntKind.i64 r4.c.6), .tr true (.arr (1) (r4.p.1.length) ((eL 1 rowB r4.p.1).fn)), .tr true (.arr (1) (r4.p.2.length) ((eL 1 rowI r4.p.2).fn)), .tr true (.arr (1) (r4.p.3.length) ((eL 1 rowI r4.p.3).fn)), .tr true (.arr (13) (r4.3.length) ((eL 13 Nd.cs r4.3).fn)), .tr true (.arr (5) (r4.4.length) ((eL 5 Ws.cs r4.4).fn)), .tr true (.arr (1) (r4.5.length) ((eL 1 rowI r4.5).fn))])]⟩)
def ce_xBytesSeen_2 (r4 : Wd) : Nat × Ct := (96, ⟨z0, [(true, [.tr true (T.int IntKind.i64 r4.c.1), .tr true (T.int IntKind.i64 r4.c.2), .tr true (T.int IntKind.i64 r4.c.3), .tr true (T.int IntKind.i64 r4.c.4), .tr true (T.int IntKind.i64 r4.c.5), .tr true (T.int IntKind.i64 r4.c.6), .tr true (T.hole), .tr true (T.hole), .tr true (T.hole), .tr true (T.hole), .tr true (T.hole), .tr true (T.hole)])]⟩)
def sq_xBytesSeen_6 (w : Wd) (h : Hd) (r3 : List UInt8) (r4 : Wd) : St := [(8, ⟨z0, [(false, [(C.pt (Pt.ptr 9 0 [] 12 0 0))])]⟩), (ce_xBytesSeen_0 w), (12, ⟨z0, [(false, [(C.pt (Pt.ptr 13 0 [] 2 0 0))])]⟩), (13, ⟨z0, [(true, [.tr true (T.int IntKind.i64 h.1), .tr true (T.int IntKind.i64 h.2)])]⟩), (24, ⟨z0, [(false, [.tr true (.arr (1) (r3.length) (atL rowB r3))])]⟩), (28, ⟨z0, [(false, [(C.pt (Pt.ptr 29 0 [] 12 0 0))])]⟩), (ce_xBytesSeen_1 r4), (ce_xBytesSeen_2 r4)]
theorem sg_xBytesSeen_5 (w : Wd) (h : Hd) (r3 : List UInt8) (n : Nat) (K : Ex → St → Res) : atP prog (tabS [(i_SzWd, e_SzWd), (i_ToWd, e_ToWd), (i_toHd, e_toHd), (i_sBs, e_sBs), (i_iBs, e_iBs), (i_eqLB, e_eqLB), (i_EqWd, e_EqWd), (i_mkWd, e_mkWd), (i_mkLB, e_mkLB), (i_hdLB, e_hdLB)]) kp_xBytesSeen F_xBytesSeen [1, 1, 1, 1, 1, 0] n (sq_xBytesSeen_5 w h r3) K = (
 entK ok_ToWd ea_ToWd (f_ToWd) [(0, true,
    [C.tr false (T.int IntKind.i64 w.c.1), C.tr false (T.int IntKind.i64 w.c.2),
      C.tr false (T.int IntKind.i64 w.c.3), C.tr false (T.int IntKind.i64 w.c.4),
      C.tr false (T.int IntKind.i64 w.c.5), C.tr false (T.int IntKind.i64 w.c.6), C.tr false (eL 1 rowB w.p.1),
      C.tr false (eL 1 rowI w.p.2), C.tr false (eL 1 rowI w.p.3), C.tr false (eL 13 Nd.cs w.3),
      C.tr false (eL 5 Ws.cs w.4), C.tr false (eL 1 rowI w.5)])] fun (r4 : Wd) =>
 gd (r4.p.1.length.ble r4.p.1.length && true) <|
 gd (r4.p.2.length.ble r4.p.2.length && true) <|
 gd (r4.p.3.length.ble r4.p.3.length && true) <|
 gd (r4.3.length.ble r4.3.length && true) <|
 gd (r4.4.length.ble r4.4.length && true) <|
 gd (r4.5.length.ble r4.5.length && true) <|
 K .normal (sq_xBytesSeen_6 w h r3 r4)) := by kernel_rfl
def sq_xBytesSeen_7 (w : Wd) (h : Hd) (r3 : List UInt8) (r4 : Wd) (r5 : List UInt8) : St := [(8, ⟨z0, [(false, [(C.pt (Pt.ptr 9 0 [] 12 0 0))])]⟩), (ce_xBytesSeen_0 w), (12, ⟨z0, [(false, [(C.pt (Pt.ptr 13 0 [] 2 0 0))])]⟩), (13, ⟨z0, [(true, [.tr true (T.int IntKind.i64 h.1), .tr true (T.int IntKind.i64 h.2)])]⟩), (24, ⟨z0, [(false, [.tr true (.arr (1) (r3.length) (atL rowB r3))])]⟩), (28, ⟨z0, [(false, [(C.pt (Pt.ptr 29 0 [] 12 0 0))])]⟩), (ce_xBytesSeen_1 r4), (32, ⟨z0, [(false, [.tr true (.arr (1) (r5.length) (atL rowB r5))])]⟩), (ce_xBytesSeen_2 r4)]
theorem sg_xBytesSeen_6 (w : Wd) (h : Hd) (r3 : List UInt8) (r4 : Wd) (n : Nat) (K : Ex → St → Res) : atP prog (tabS [(i_SzWd, e_SzWd), (i_ToWd, e_ToWd), (i_toHd, e_toHd), (i_sBs, e_sBs), (i_iBs, e_iBs), (i_eqLB, e_eqLB), (i_EqWd, e_EqWd), (i_mkWd, e_mkWd), (i_mkLB, e_mkLB), (i_hdLB, e_hdLB)]) kp_xBytesSeen F_xBytesSeen [1, 1, 1, 1, 1, 1, 0] n (sq_xBytesSeen_6 w h r3 r4) K = (
 gd ((0 + r4.p.1.length).ble r4.p.1.length) <|
 gd ((0 + r4.p.2.length).ble r4.p.2.length) <|
 gd ((0 + r4.p.3.length).ble r4.p.3.length) <|
 gd ((0 + r4.3.length).ble r4.3.length) <|
 gd ((0 + r4.4.length).ble r4.4.length) <|
 gd ((0 + r4.5.length).ble r4.5.length) <|
 entK ok_iBs ea_iBs (f_iBs) [(0, true,
    [C.tr false (T.int IntKind.i64 r4.c.1), C.tr false (T.int IntKind.i64 r4.c.2),
      C.tr false (T.int IntKind.i64 r4.c.3), C.tr false (T.int IntKind.i64 r4.c.4),
      C.tr false (T.int IntKind.i64 r4.c.5), C.tr false (T.int IntKind.i64 r4.c.6),
      C.tr false (T.arr 1 r4.p.1.length (cutT 0 r4.p.1.length (eL 1 rowB r4.p.1).fn)),
      C.tr false (T.arr 1 r4.p.2.length (cutT 0 r4.p.2.length (eL 1 rowI r4.p.2).fn)),
      C.tr false (T.arr 1 r4.p.3.length (cutT 0 r4.p.3.length (eL 1 rowI r4.p.3).fn)),
      C.tr false (T.arr 13 r4.3.length (cutT 0 r4.3.length (eL 13 Nd.cs r4.3).fn)),
      C.tr false (T.arr 5 r4.4.length (cutT 0 r4.4.length (eL 5 Ws.cs r4.4).fn)),
      C.tr false (T.arr 1 r4.5.length (cutT 0 r4.5.length (eL 1 rowI r4.5).fn))]),
  (0, true, [C.tr false (T.int IntKind.i64 h.1), C.tr false (T.int IntKind.i64 h.2)])] fun (r5 : List UInt8) =>
 gd (r5.length.ble r5.length && true) <|
 K .normal (sq_xBytesSeen_7 w h r3 r4 r5)) := by kernel_rfl
def sq_xBytesSeen_8 (w : Wd) (h : Hd) (r3 : List UInt8) (r4 : Wd) (r5 : List UInt8) : St := [(8, ⟨z0, [(false, [(C.pt (Pt.ptr 9 0 [] 12 0 0))])]⟩), (ce_xBytesSeen_0 w), (12, ⟨z0, [(false, [(C.pt (Pt.ptr 13 0 [] 2 0 0))])]⟩), (13, ⟨z0, [(true, [.tr true (T.int IntKind.i64 h.1), .tr true (T.int IntKind.i64 h.2)])]⟩), (24, ⟨z0, [(false, [.tr true (.arr (1) (r3.length) (atL rowB r3))])]⟩), (28, ⟨z0, [(false, [(C.pt (Pt.ptr 29 0 [] 12 0 0))])]⟩), (ce_xBytesSeen_1 r4), (32, ⟨z0, [(false, [.tr true (.arr (1) (r5.length) (atL rowB r5))])]⟩), (ce_xBytesSeen_2 r4), (128, ⟨z0, []⟩)]
theorem sg_xBytesSeen_7 (w : Wd) (h : Hd) (r3 : List UInt8) (r4 : Wd) (r5 : List UInt8) (n : Nat) (K : Ex → St → Res) : atP prog (tabS [(i_SzWd, e_SzWd), (i_ToWd, e_ToWd), (i_toHd, e_toHd), (i_sBs, e_sBs), (i_iBs, e_iBs), (i_eqLB, e_eqLB), (i_EqWd, e_EqWd), (i_mkWd, e_mkWd), (i_mkLB, e_mkLB), (i_hdLB, e_hdLB)]) kp_xBytesSeen F_xBytesSeen [1, 1, 1, 1, 1, 1, 1, 0] n (sq_xBytesSeen_7 w h r3 r4 r5) K = (
 gd ((0 + r5.length).ble r5.length) <|
 gd ((0 + r3.length).ble r3.length) <|
 entK ok2_LB ea2_LB (f_eqLB) [(0, false, [C.tr false (T.arr 1 r5.length (cutT 0 r5.length (atL rowB r5)))]),
  (0, false, [C.tr false (T.arr 1 r3.length (cutT 0 r3.length (atL rowB r3)))])] fun (r6 : Bool) =>
 bif !r6 then
  K .ret [(16, ⟨z0, [(false, [.tr true (T.bool false)])]⟩)]
 else
 K .normal (sq_xBytesSeen_8 w h r3 r4 r5)) := by kernel_rfl
def sq_xBytesSeen_9 (w : Wd) (h : Hd) (r3 : List UInt8) (r4 : Wd) (r5 : List UInt8) : St := [(8, ⟨z0, [(false, [(C.pt (Pt.ptr 9 0 [] 12 0 0))])]⟩), (ce_xBytesSeen_0 w), (12, ⟨z0, [(false, [(C.pt (Pt.ptr 13 0 [] 2 0 0))])]⟩), (13, ⟨z0, [(true, [.tr true (T.int IntKind.i64 h.1), .tr true (T.int IntKind.i64 h.2)])]⟩), (24, ⟨z0, [(false, [.tr true (.arr (1) (r3.length) (atL rowB r3))])]⟩), (28, ⟨z0, [(false, [(C.pt (Pt.ptr 29 0 [] 12 0 0))])]⟩), (ce_xBytesSeen_1 r4), (32, ⟨z0, [(false, [.tr true (.arr (1) (r5.length) (atL rowB r5))])]⟩), (ce_xBytesSeen_2 r4), (148, ⟨z0, []⟩)]
theorem sg_xBytesSeen_8 (w : Wd) (h : Hd) (r3 : List UInt8) (r4 : Wd) (r5 : List UInt8) (n : Nat) (K : Ex → St → Res) : atP prog (tabS [(i_SzWd, e_SzWd), (i_ToWd, e_ToWd), (i_toHd, e_toHd), (i_sBs, e_sBs), (i_iBs, e_iBs), (i_eqLB, e_eqLB), (i_EqWd, e_EqWd), (i_mkWd, e_mkWd), (i_mkLB, e_mkLB), (i_hdLB, e_hdLB)]) kp_xBytesSeen F_xBytesSeen [1, 1, 1, 1, 1, 1, 1, 1, 0] n (sq_xBytesSeen_8 w h r3 r4 r5) K = (
 entK ok_ToWd ea_ToWd (f_ToWd) [(0, true,
    [C.tr false (T.int IntKind.i64 w.c.1), C.tr false (T.int IntKind.i64 w.c.2),
      C.tr false (T.int IntKind.i64 w.c.3), C.tr false (T.int IntKind.i64 w.c.4),
      C.tr false (T.int IntKind.i64 w.c.5), C.tr false (T.int IntKind.i64 w.c.6), C.tr false (eL 1 rowB w.p.1),
      C.tr false (eL 1 rowI w.p.2), C.tr false (eL 1 rowI w.p.3), C.tr false (eL 13 Nd.cs w.3),
      C.tr false (eL 5 Ws.cs w.4), C.tr false (eL 1 rowI w.5)])] fun (r7 : Wd) =>
 gd ((0 + r4.p.1.length).ble r4.p.1.length) <|
 gd ((0 + r4.p.2.length).ble r4.p.2.length) <|
 gd ((0 + r4.p.3.length).ble r4.p.3.length) <|
 gd ((0 + r4.3.length).ble r4.3.length) <|
 gd ((0 + r4.4.length).ble r4.4.length) <|
 gd ((0 + r4.5.length).ble r4.5.length) <|
 gd ((0 + r7.p.1.length).ble r7.p.1.length) <|
 gd ((0 + r7.p.2.length).ble r7.p.2.length) <|
 gd ((0 + r7.p.3.length).ble r7.p.3.length) <|
 gd ((0 + r7.3.length).ble r7.3.length) <|
 gd ((0 + r7.4.length).ble r7.4.length) <|
 gd ((0 + r7.5.length).ble r7.5.length) <|
 entK ok_EqWd ea_EqWd (f_EqWd) [(0, true,
    [C.tr false (T.int IntKind.i64 r4.c.1), C.tr false (T.int IntKind.i64 r4.c.2),
      C.tr false (T.int IntKind.i64 r4.c.3), C.tr false (T.int IntKind.i64 r4.c.4),
      C.tr false (T.int IntKind.i64 r4.c.5), C.tr false (T.int IntKind.i64 r4.c.6),
      C.tr false (T.arr 1 r4.p.1.length (cutT 0 r4.p.1.length (eL 1 rowB r4.p.1).fn)),
      C.tr false (T.arr 1 r4.p.2.length (cutT 0 r4.p.2.length (eL 1 rowI r4.p.2).fn)),
      C.tr false (T.arr 1 r4.p.3.length (cutT 0 r4.p.3.length (eL 1 rowI r4.p.3).fn)),
      C.tr false (T.arr 13 r4.3.length (cutT 0 r4.3.length (eL 13 Nd.cs r4.3).fn)),
      C.tr false (T.arr 5 r4.4.length (cutT 0 r4.4.length (eL 5 Ws.cs r4.4).fn)),
      C.tr false (T.arr 1 r4.5.length (cutT 0 r4.5.length (eL 1 rowI r4.5).fn))]),
  (0, true,
    [C.tr false (T.int IntKind.i64 r7.c.1), C.tr false (T.int IntKind.i64 r7.c.2),
      C.tr false (T.int IntKind.i64 r7.c.3), C.tr false (T.int IntKind.i64 r7.c.4),
      C.tr false (T.int IntKind.i64 r7.c.5), C.tr false (T.int IntKind.i64 r7.c.6),
      C.tr false (T.arr 1 r7.p.1.length (cutT 0 r7.p.1.length (eL 1 rowB r7.p.1).fn)),
      C.tr false (T.arr 1 r7.p.2.length (cutT 0 r7.p.2.length (eL 1 rowI r7.p.2).fn)),
      C.tr false (T.arr 1 r7.p.3.length (cutT 0 r7.p.3.length (eL 1 rowI r7.p.3).fn)),
      C.tr false (T.arr 13 r7.3.length (cutT 0 r7.3.length (eL 13 Nd.cs r7.3).fn)),
      C.tr false (T.arr 5 r7.4.length (cutT 0 r7.4.length (eL 5 Ws.cs r7.4).fn)),
      C.tr false (T.arr 1 r7.5.length (cutT 0 r7.5.length (eL 1 rowI r7.5).fn))])] fun (r8 : Bool) =>
 bif !r8 then
  K .ret [(16, ⟨z0, [(false, [.tr true (T.bool false)])]⟩)]
 else
 K .normal (sq_xBytesSeen_9 w h r3 r4 r5)) := by kernel_rfl
def sq_xBytesSeen_10 (w : Wd) (h : Hd) (r3 : List UInt8) (r4 : Wd) (r5 : List UInt8) : St := [(8, ⟨z0, [(false, [(C.pt (Pt.ptr 9 0 [] 12 0 0))])]⟩), (ce_xBytesSeen_0 w), (12, ⟨z0, [(false, [(C.pt (Pt.ptr 13 0 [] 2 0 0))])]⟩), (13, ⟨z0, [(true, [.tr true (T.int IntKind.i64 h.1), .tr true (T.int IntKind.i64 h.2)])]⟩), (24, ⟨z0, [(false, [.tr true (.arr (1) (r3.length) (atL rowB r3))])]⟩), (28, ⟨z0, [(false, [(C.pt (Pt.ptr 29 0 [] 12 0 0))])]⟩), (ce_xBytesSeen_1 r4), (32, ⟨z0, [(false, [.tr true (.arr (1) (r5.length) (atL rowB r5))])]⟩), (36, ⟨z0, [(false, [.tr true (T.int IntKind.i64 1)])]⟩), (ce_xBytesSeen_2 r4)]
theorem sg_xBytesSeen_9 (w : Wd) (h : Hd) (r3 : List UInt8) (r4 : Wd) (r5 : List UInt8) (n : Nat) (K : Ex → St → Res) : atP prog (tabS [(i_SzWd, e_SzWd), (i_ToWd, e_ToWd), (i_toHd, e_toHd), (i_sBs, e_sBs), (i_iBs, e_iBs), (i_eqLB, e_eqLB), (i_EqWd, e_EqWd), (i_mkWd, e_mkWd), (i_mkLB, e_mkLB), (i_hdLB, e_hdLB)]) kp_xBytesSeen F_xBytesSeen [1, 1, 1, 1, 1, 1, 1, 1, 1, 0] n (sq_xBytesSeen_9 w h r3 r4 r5) K = (
 K .normal (sq_xBytesSeen_10 w h r3 r4 r5)) := by kernel_rfl
def sq_xBytesSeen_11 (w : Wd) (h : Hd) (r3 : List UInt8) (r5 : List UInt8) (r14 : List Int × Int) : St := [(8, ⟨z0, [(false, [(C.pt (Pt.ptr 9 0 [] 12 0 0))])]⟩), (ce_xBytesSeen_0 w), (12, ⟨z0, [(false, [(C.pt (Pt.ptr 13 0 [] 2 0 0))])]⟩), (13, ⟨z0, [(true, [.tr true (T.int IntKind.i64 h.1), .tr true (T.int IntKind.i64 h.2)])]⟩), (24, ⟨z0, [(false, [.tr true (.arr (1) (r3.length) (atL rowB r3))])]⟩), (32, ⟨z0, [(false, [.tr true (.arr (1) (r5.length) (atL rowB r5))])]⟩), (36, ⟨z0, [(false, [.tr true (T.int IntKind.i64 (f_ctLI r14))])]⟩)]
theorem sg_xBytesSeen_10 (w : Wd) (h : Hd) (r3 : List UInt8) (r4 : Wd) (r5 : List UInt8) (n : Nat) (K : Ex → St → Res) : atP prog (tabS [(i_SzWd, e_SzWd), (i_ToWd, e_ToWd), (i_toHd, e_toHd), (i_sBs, e_sBs), (i_iBs, e_iBs), (i_eqLB, e_eqLB), (i_EqWd, e_EqWd), (i_mkWd, e_mkWd), (i_mkLB, e_mkLB), (i_hdLB, e_hdLB)]) kp_xBytesSeen F_xBytesSeen [1, 1, 1, 1, 1, 1, 1, 1, 1, 1, 0] n (sq_xBytesSeen_10 w h r3 r4 r5) K = (
 gd (r4.p.1.length.beq r4.p.1.length && true) <|
 gd (r4.p.2.length.beq r4.p.2.length && true) <|
 gd (r4.p.3.length.beq r4.p.3.length && true) <|
 gd (r4.3.length.beq r4.3.length && true) <|
 gd (r4.4.length.beq r4.4.length && true) <|
 gd (r4.5.length.beq r4.5.length && true) <|
 gd (r4.p.1.length.beq r4.p.1.length && true) <|
 gd (r4.p.2.length.beq r4.p.2.length && true) <|
 gd (r4.p.3.length.beq r4.p.3.length && true) <|
 gd (r4.p.1.length.beq r4.p.1.length && true) <|
 entK okh_LB eam_LB (fun x => x) [(1, false, [C.tr true (T.arr 1 r4.p.1.length (eL 1 rowB r4.p.1).fn)]),
  (0, false, [C.tr false (T.int IntKind.i64 1)])] fun (r9 : List UInt8 × Int) =>
 gd (r4.p.1.length.beq (f_mkLB r9).length && true) <|
 gd (r4.p.2.length.beq r4.p.2.length && true) <|
 entK okh_LI eam_LI (fun x => x) [(1, false, [C.tr true (T.arr 1 r4.p.2.length (eL 1 rowI r4.p.2).fn)]),
  (0, false, [C.tr false (T.int IntKind.i64 (f_ctLB r9))])] fun (r10 : List Int × Int) =>
 gd (r4.p.2.length.beq (f_mkLI r10).length && true) <|
 gd (r4.p.3.length.beq r4.p.3.length && true) <|
 entK okh_LI eam_LI (fun x => x) [(1, false, [C.tr true (T.arr 1 r4.p.3.length (eL 1 rowI r4.p.3).fn)]),
  (0, false, [C.tr false (T.int IntKind.i64 (f_ctLI r10))])] fun (r11 : List Int × Int) =>
 gd (r4.p.3.length.beq (f_mkLI r11).length && true) <|
 gd (r4.p.1.length.beq (f_mkLB r9).length && true) <|
 gd (r4.p.2.length.beq (f_mkLI r10).length && true) <|
 gd (r4.p.3.length.beq (f_mkLI r11).length && true) <|
 gd (r4.3.length.beq r4.3.length && true) <|
 entK okh_NdS eam_NdS (fun x => x) [(1, false, [C.tr true (T.arr 13 r4.3.length (eL 13 Nd.cs r4.3).fn)]),
  (0, false, [C.tr false (T.int IntKind.i64 (f_ctLI r11))])] fun (r12 : List Nd × Int) =>
 gd (r4.3.length.beq (f_mkNdS r12).length && true) <|
 gd (r4.4.length.beq r4.4.length && true) <|
 entK okh_WsS eam_WsS (fun x => x) [(1, false, [C.tr true (T.arr 5 r4.4.length (eL 5 Ws.cs r4.4).fn)]),
  (0, false, [C.tr false (T.int IntKind.i64 (f_ctNdS r12))])] fun (r13 : List Ws × Int) =>
 gd (r4.4.length.beq (f_mkWsS r13).length && true) <|
 gd (r4.5.length.beq r4.5.length && true) <|
 entK okh_LI eam_LI (fun x => x) [(1, false, [C.tr true (T.arr 1 r4.5.length (eL 1 rowI r4.5).fn)]),
  (0, false, [C.tr false (T.int IntKind.i64 (f_ctWsS r13))])] fun (r14 : List Int × Int) =>
 gd (r4.5.length.beq (f_mkLI r14).length && true) <|
 gd (r4.p.1.length.beq (f_mkLB r9).length && true) <|
 gd (r4.p.2.length.beq (f_mkLI r10).length && true) <|
 gd (r4.p.3.length.beq (f_mkLI r11).length && true) <|
 gd (r4.3.length.beq (f_mkNdS r12).length && true) <|
 gd (r4.4.length.beq (f_mkWsS r13).length && true) <|
 gd (r4.5.length.beq (f_mkLI r14).length && true) <|
 K .normal (sq_xBytesSeen_11 w h r3 r5 r14)) := by kernel_rfl
def sq_xBytesSeen_12 (w : Wd) (h : Hd) (r3 : List UInt8) (r5 : List UInt8) : St := [(8, ⟨z0, [(false, [(C.pt (Pt.ptr 9 0 [] 12 0 0))])]⟩), (ce_xBytesSeen_0 w), (12, ⟨z0, [(false, [(C.pt (Pt.ptr 13 0 [] 2 0 0))])]⟩), (13, ⟨z0, [(true, [.tr true (T.int IntKind.i64 h.1), .tr true (T.int IntKind.i64 h.2)])]⟩), (24, ⟨z0, [(false, [.tr true (.arr (1) (r3.length) (atL rowB r3))])]⟩), (32, ⟨z0, [(false, [.tr true (.arr (1) (r5.length) (atL rowB r5))])]⟩), (192, ⟨z0, []⟩)]
theorem sg_xBytesSeen_11 (w : Wd) (h : Hd) (r3 : List UInt8) (r5 : List UInt8) (r14 : List Int × Int) (n : Nat) (K : Ex → St → Res) : atP prog (tabS [(i_SzWd, e_SzWd), (i_ToWd, e_ToWd), (i_toHd, e_toHd), (i_sBs, e_sBs), (i_iBs, e_iBs), (i_eqLB, e_eqLB), (i_EqWd, e_EqWd), (i_mkWd, e_mkWd), (i_mkLB, e_mkLB), (i_hdLB, e_hdLB)]) kp_xBytesSeen F_xBytesSeen [1, 1, 1, 1, 1, 1, 1, 1, 1, 1, 1, 0] n (sq_xBytesSeen_11 w h r3 r5 r14) K = (
 bif decide (f_ctLI r14 < 0) then
  K .ret [(16, ⟨z0, [(false, [.tr true (T.bool false)])]⟩)]
 else
 gd ((0 + r5.length).ble r5.length) <|
 gd ((0 + r3.length).ble r3.length) <|
 entK ok2_LB ea2_LB (f_eqLB) [(0, false, [C.tr false (T.arr 1 r5.length (cutT 0 r5.length (atL rowB r5)))]),
  (0, false, [C.tr false (T.arr 1 r3.length (cutT 0 r3.length (atL rowB r3)))])] fun (r15 : Bool) =>
 bif !r15 then
  K .ret [(16, ⟨z0, [(false, [.tr true (T.bool false)])]⟩)]
 else
 K .normal (sq_xBytesSeen_12 w h r3 r5)) := by kernel_rfl
def sq_xBytesSeen_13 (w : Wd) (h : Hd) (r3 : List UInt8) (r5 : List UInt8) : St := [(8, ⟨z0, [(false, [(C.pt (Pt.ptr 9 0 [] 12 0 0))])]⟩), (ce_xBytesSeen_0 w), (12, ⟨z0, [(false, [(C.pt (Pt.ptr 13 0 [] 2 0 0))])]⟩), (13, ⟨z0, [(true, [.tr true (T.int IntKind.i64 h.1), .tr true (T.int IntKind.i64 h.2)])]⟩), (24, ⟨z0, [(false, [.tr true (.arr (1) (r3.length) (atL rowB r3))])]⟩), (32, ⟨z0, [(false, [.tr true (.arr (1) (r5.length) (atL rowB r5))])]⟩), (40, ⟨z0, [(false, [.tr true (T.int IntKind.i64 1)])]⟩)]
theorem sg_xBytesSeen_12 (w : Wd) (h : Hd) (r3 : List UInt8) (r5 : List UInt8) (n : Nat) (K : Ex → St → Res) : atP prog (tabS [(i_SzWd, e_SzWd), (i_ToWd, e_ToWd), (i_toHd, e_toHd), (i_sBs, e_sBs), (i_iBs, e_iBs), (i_eqLB, e_eqLB), (i_EqWd, e_EqWd), (i_mkWd, e_mkWd), (i_mkLB, e_mkLB), (i_hdLB, e_hdLB)]) kp_xBytesSeen F_xBytesSeen [1, 1, 1, 1, 1, 1, 1, 1, 1, 1, 1, 1, 0] n (sq_xBytesSeen_12 w h r3 r5) K = (
 K .normal (sq_xBytesSeen_13 w h r3 r5)) := by kernel_rfl
def sq_xBytesSeen_14 (w : Wd) (h : Hd) (r3 : List UInt8) (r16 : List UInt8 × Int) : St := [(8, ⟨z0, [(false, [(C.pt (Pt.ptr 9 0 [] 12 0 0))])]⟩), (ce_xBytesSeen_0 w), (12, ⟨z0, [(false, [(C.pt (Pt.ptr 13 0 [] 2 0 0))])]⟩), (13, ⟨z0, [(true, [.tr true (T.int IntKind.i64 h.1), .tr true (T.int IntKind.i64 h.2)])]⟩), (24, ⟨z0, [(false, [.tr true (.arr (1) (r3.length) (atL rowB r3))])]⟩), (32, ⟨z0, [(false, [.tr true (.arr (1) ((f_mkLB r16).length) (atL rowB (f_mkLB r16)))])]⟩), (40, ⟨z0, [(false, [.tr true (T.int IntKind.i64 (f_ctLB r16))])]⟩)]
theorem sg_xBytesSeen_13 (w : Wd) (h : Hd) (r3 : List UInt8) (r5 : List UInt8) (n : Nat) (K : Ex → St → Res) : atP prog (tabS [(i_SzWd, e_SzWd), (i_ToWd, e_ToWd), (i_toHd, e_toHd), (i_sBs, e_sBs), (i_iBs, e_iBs), (i_eqLB, e_eqLB), (i_EqWd, e_EqWd), (i_mkWd, e_mkWd), (i_mkLB, e_mkLB), (i_hdLB, e_hdLB)]) kp_xBytesSeen F_xBytesSeen [1, 1, 1, 1, 1, 1, 1, 1, 1, 1, 1, 1, 1, 0] n (sq_xBytesSeen_13 w h r3 r5) K = (
 gd (r5.length.beq r5.length && true) <|
 entK okh_LB eam_LB (fun x => x) [(1, false, [C.tr true (T.arr 1 r5.length (atL rowB r5))]),
  (0, false, [C.tr false (T.int IntKind.i64 1)])] fun (r16 : List UInt8 × Int) =>
 gd (r5.length.beq (f_mkLB r16).length && true) <|
 K .normal (sq_xBytesSeen_14 w h r3 r16)) := by kernel_rfl
def sq_xBytesSeen_15 (w : Wd) (h : Hd) (r3 : List UInt8) (r16 : List UInt8 × Int) : St := [(8, ⟨z0, [(false, [(C.pt (Pt.ptr 9 0 [] 12 0 0))])]⟩), (ce_xBytesSeen_0 w), (12, ⟨z0, [(false, [(C.pt (Pt.ptr 13 0 [] 2 0 0))])]⟩), (13, ⟨z0, [(true, [.tr true (T.int IntKind.i64 h.1), .tr true (T.int IntKind.i64 h.2)])]⟩), (24, ⟨z0, [(false, [.tr true (.arr (1) (r3.length) (atL rowB r3))])]⟩), (32, ⟨z0, [(false, [.tr true (.arr (1) ((f_mkLB r16).length) (atL rowB (f_mkLB r16)))])]⟩), (40, ⟨z0, [(false, [.tr true (T.int IntKind.i64 (f_ctLB r16))])]⟩), (44, ⟨z0, [(false, [.tr true (T.int IntKind.i64 1)])]⟩)]
theorem sg_xBytesSeen_14 (w : Wd) (h : Hd) (r3 : List UInt8) (r16 : List UInt8 × Int) (n : Nat) (K : Ex → St → Res) : atP prog (tabS [(i_SzWd, e_SzWd), (i_ToWd, e_ToWd), (i_toHd, e_toHd), (i_sBs, e_sBs), (i_iBs, e_iBs), (i_eqLB, e_eqLB), (i_EqWd, e_EqWd), (i_mkWd, e_mkWd), (i_mkLB, e_mkLB), (i_hdLB, e_hdLB)]) kp_xBytesSeen F_xBytesSeen [1, 1, 1, 1, 1, 1, 1, 1, 1, 1, 1, 1, 1, 1, 0] n (sq_xBytesSeen_14 w h r3 r16) K = (
 K .normal (sq_xBytesSeen_15 w h r3 r16)) := by kernel_rfl
def sq_xBytesSeen_16 (w : Wd) (h : Hd) (r3 : List UInt8) (r16 : List UInt8 × Int) (r17 : Int) : St := [(8, ⟨z0, [(false, [(C.pt (Pt.ptr 9 0 [] 12 0 0))])]⟩), (ce_xBytesSeen_0 w), (12, ⟨z0, [(false, [(C.pt (Pt.ptr 13 0 [] 2 0 0))])]⟩), (13, ⟨z0, [(true, [.tr true (T.int IntKind.i64 h.1), .tr true (T.int IntKind.i64 h.2)])]⟩), (24, ⟨z0, [(false, [.tr true (.arr (1) (r3.length) (atL rowB r3))])]⟩), (32, ⟨z0, [(false, [.tr true (.arr (1) ((f_mkLB r16).length) (atL rowB (f_mkLB r16)))])]⟩), (40, ⟨z0, [(false, [.tr true (T.int IntKind.i64 (f_ctLB r16))])]⟩), (44, ⟨z0, [(false, [.tr true (T.int IntKind.i64 r17)])]⟩)]
theorem sg_xBytesSeen_15 (w : Wd) (h : Hd) (r3 : List UInt8) (r16 : List UInt8 × Int) (n : Nat) (K : Ex → St → Res) : atP prog (tabS [(i_SzWd, e_SzWd), (i_ToWd, e_ToWd), (i_toHd, e_toHd), (i_sBs, e_sBs), (i_iBs, e_iBs), (i_eqLB, e_eqLB), (i_EqWd, e_EqWd), (i_mkWd, e_mkWd), (i_mkLB, e_mkLB), (i_hdLB, e_hdLB)]) kp_xBytesSeen F_xBytesSeen [1, 1, 1, 1, 1, 1, 1, 1, 1, 1, 1, 1, 1, 1, 1, 0] n (sq_xBytesSeen_15 w h r3 r16) K = (
 gd ((0 + (f_mkLB r16).length).ble (f_mkLB r16).length) <|
 entK okh_LB eah_LB (f_hdLB) [(0, false,
    [C.tr false
        (T.arr 1 (f_mkLB r16).length (cutT 0 (f_mkLB r16).length (atL rowB (f_mkLB r16))))]),
  (0, false, [C.tr false (T.int IntKind.i64 1)])] fun (r17 : Int) =>
 K .normal (sq_xBytesSeen_16 w h r3 r16 r17)) := by kernel_rfl
def sq_xBytesSeen_17 (w : Wd) (h : Hd) (r3 : List UInt8) (r16 : List UInt8 × Int) (r17 : Int) : St := [(8, ⟨z0, [(false, [(C.pt (Pt.ptr 9 0 [] 12 0 0))])]⟩), (ce_xBytesSeen_0 w), (12, ⟨z0, [(false, [(C.pt (Pt.ptr 13 0 [] 2 0 0))])]⟩), (13, ⟨z0, [(true, [.tr true (T.int IntKind.i64 h.1), .tr true (T.int IntKind.i64 h.2)])]⟩), (24, ⟨z0, [(false, [.tr true (.arr (1) (r3.length) (atL rowB r3))])]⟩), (32, ⟨z0, [(false, [.tr true (.arr (1) ((f_mkLB r16).length) (atL rowB (f_mkLB r16)))])]⟩), (40, ⟨z0, [(false, [.tr true (T.int IntKind.i64 (f_ctLB r16))])]⟩), (44, ⟨z0, [(false, [.tr true (T.int IntKind.i64 r17)])]⟩), (224, ⟨z0, []⟩)]
theorem sg_xBytesSeen_16 (w : Wd) (h : Hd) (r3 : List UInt8) (r16 : List UInt8 × Int) (r17 : Int) (n : Nat) (K : Ex → St → Res) : atP prog (tabS [(i_SzWd, e_SzWd), (i_ToWd, e_ToWd), (i_toHd, e_toHd), (i_sBs, e_sBs), (i_iBs, e_iBs), (i_eqLB, e_eqLB), (i_EqWd, e_EqWd), (i_mkWd, e_mkWd), (i_mkLB, e_mkLB), (i_hdLB, e_hdLB)]) kp_xBytesSeen F_xBytesSeen [1, 1, 1, 1, 1, 1, 1, 1, 1, 1, 1, 1, 1, 1, 1, 1, 0] n (sq_xBytesSeen_16 w h r3 r16 r17) K = (
 bif decide (r17 < 0) then
  K .ret [(16, ⟨z0, [(false, [.tr true (T.bool false)])]⟩)]
 else
 K .normal (sq_xBytesSeen_17 w h r3 r16 r17)) := by kernel_rfl
def sq_xBytesSeen_18 (w : Wd) (h : Hd) (r3 : List UInt8) (r16 : List UInt8 × Int) : St := [(8, ⟨z0, [(false, [(C.pt (Pt.ptr 9 0 [] 12 0 0))])]⟩), (ce_xBytesSeen_0 w), (12, ⟨z0, [(false, [(C.pt (Pt.ptr 13 0 [] 2 0 0))])]⟩), (13, ⟨z0, [(true, [.tr true (T.int IntKind.i64 h.1), .tr true (T.int IntKind.i64 h.2)])]⟩), (24, ⟨z0, [(false, [.tr true (.arr (1) (r3.length) (atL rowB r3))])]⟩), (32, ⟨z0, [(false, [.tr true (.arr (1) ((f_mkLB r16).length) (atL rowB (f_mkLB r16)))])]⟩), (40, ⟨z0, [(false, [.tr true (T.int IntKind.i64 (f_ctLB r16))])]⟩), (236, ⟨z0, []⟩)]
theorem sg_xBytesSeen_17 (w : Wd) (h : Hd) (r3 : List UInt8) (r16 : List UInt8 × Int) (r17 : Int) (n : Nat) (K : Ex → St → Res) : atP prog (tabS [(i_SzWd, e_SzWd), (i_ToWd, e_ToWd), (i_toHd, e_toHd), (i_sBs, e_sBs), (i_iBs, e_iBs), (i_eqLB, e_eqLB), (i_EqWd, e_EqWd), (i_mkWd, e_mkWd), (i_mkLB, e_mkLB), (i_hdLB, e_hdLB)]) kp_xBytesSeen F_xBytesSeen [1, 1, 1, 1, 1, 1, 1, 1, 1, 1, 1, 1, 1, 1, 1, 1, 1, 0] n (sq_xBytesSeen_17 w h r3 r16 r17) K = (
 bif r17 != f_ctLB r16 then
  K .ret [(16, ⟨z0, [(false, [.tr true (T.bool false)])]⟩)]
 else
 K .normal (sq_xBytesSeen_18 w h r3 r16)) := by kernel_rfl
def sq_xBytesSeen_19 (w : Wd) (h : Hd) (r3 : List UInt8) (r16 : List UInt8 × Int) (r19 : List UInt8) : St := [(24, ⟨z0, [(false, [.tr true (.arr (1) (r3.length) (atL rowB r3))])]⟩), (32, ⟨z0, [(false, [.tr true (.arr (1) ((f_mkLB r16).length) (atL rowB (f_mkLB r16)))])]⟩), (40, ⟨z0, [(false, [.tr true (T.int IntKind.i64 (f_ctLB r16))])]⟩), (48, ⟨z0, [(false, [.tr true (.arr (1) (r19.length) (atL rowB r19))])]⟩)]
theorem sg_xBytesSeen_18 (w : Wd) (h : Hd) (r3 : List UInt8) (r16 : List UInt8 × Int) (n : Nat) (K : Ex → St → Res) : atP prog (tabS [(i_SzWd, e_SzWd), (i_ToWd, e_ToWd), (i_toHd, e_toHd), (i_sBs, e_sBs), (i_iBs, e_iBs), (i_eqLB, e_eqLB), (i_EqWd, e_EqWd), (i_mkWd, e_mkWd), (i_mkLB, e_mkLB), (i_hdLB, e_hdLB)]) kp_xBytesSeen F_xBytesSeen [1, 1, 1, 1, 1, 1, 1, 1, 1, 1, 1, 1, 1, 1, 1, 1, 1, 1, 0] n (sq_xBytesSeen_18 w h r3 r16) K = (
 entK ok_ToWd ea_ToWd (f_ToWd) [(0, true,
    [C.tr false (T.int IntKind.i64 w.c.1), C.tr false (T.int IntKind.i64 w.c.2),
      C.tr false (T.int IntKind.i64 w.c.3), C.tr false (T.int IntKind.i64 w.c.4),
      C.tr false (T.int IntKind.i64 w.c.5), C.tr false (T.int IntKind.i64 w.c.6), C.tr false (eL 1 rowB w.p.1),
      C.tr false (eL 1 rowI w.p.2), C.tr false (eL 1 rowI w.p.3), C.tr false (eL 13 Nd.cs w.3),
      C.tr false (eL 5 Ws.cs w.4), C.tr false (eL 1 rowI w.5)])] fun (r18 : Wd) =>
 gd ((0 + r18.p.1.length).ble r18.p.1.length) <|
 gd ((0 + r18.p.2.length).ble r18.p.2.length) <|
 gd ((0 + r18.p.3.length).ble r18.p.3.length) <|
 gd ((0 + r18.3.length).ble r18.3.length) <|
 gd ((0 + r18.4.length).ble r18.4.length) <|
 gd ((0 + r18.5.length).ble r18.5.length) <|
 entK ok_iBs ea_iBs (f_iBs) [(0, true,
    [C.tr false (T.int IntKind.i64 r18.c.1), C.tr false (T.int IntKind.i64 r18.c.2),
      C.tr false (T.int IntKind.i64 r18.c.3), C.tr false (T.int IntKind.i64 r18.c.4),
      C.tr false (T.int IntKind.i64 r18.c.5), C.tr false (T.int IntKind.i64 r18.c.6),
      C.tr false (T.arr 1 r18.p.1.length (cutT 0 r18.p.1.length (eL 1 rowB r18.p.1).fn)),
      C.tr false (T.arr 1 r18.p.2.length (cutT 0 r18.p.2.length (eL 1 rowI r18.p.2).fn)),
      C.tr false (T.arr 1 r18.p.3.length (cutT 0 r18.p.3.length (eL 1 rowI r18.p.3).fn)),
      C.tr false (T.arr 13 r18.3.length (cutT 0 r18.3.length (eL 13 Nd.cs r18.3).fn)),
      C.tr false (T.arr 5 r18.4.length (cutT 0 r18.4.length (eL 5 Ws.cs r18.4).fn)),
      C.tr false (T.arr 1 r18.5.length (cutT 0 r18.5.length (eL 1 rowI r18.5).fn))]),
  (0, true, [C.tr false (T.int IntKind.i64 h.1), C.tr false (T.int IntKind.i64 h.2)])] fun (r19 : List UInt8) =>
 gd (r19.length.ble r19.length && true) <|
 K .normal (sq_xBytesSeen_19 w h r3 r16 r19)) := by kernel_rfl
def sq_xBytesSeen_20 (w : Wd) (h : Hd) (r16 : List UInt8 × Int) : St := [(32, ⟨z0, [(false, [.tr true (.arr (1) ((f_mkLB r16).length) (atL rowB (f_mkLB r16)))])]⟩), (40, ⟨z0, [(false, [.tr true (T.int IntKind.i64 (f_ctLB r16))])]⟩), (272, ⟨z0, []⟩)]
theorem sg_xBytesSeen_19 (w : Wd) (h : Hd) (r3 : List UInt8) (r16 : List UInt8 × Int) (r19 : List UInt8) (n : Nat) (K : Ex → St → Res) : atP prog (tabS [(i_SzWd, e_SzWd), (i_ToWd, e_ToWd), (i_toHd, e_toHd), (i_sBs, e_sBs), (i_iBs, e_iBs), (i_eqLB, e_eqLB), (i_EqWd, e_EqWd), (i_mkWd, e_mkWd), (i_mkLB, e_mkLB), (i_hdLB, e_hdLB)]) kp_xBytesSeen F_xBytesSeen [1, 1, 1, 1, 1, 1, 1, 1, 1, 1, 1, 1, 1, 1, 1, 1, 1, 1, 1, 0] n (sq_xBytesSeen_19 w h r3 r16 r19) K = (
 gd ((0 + r19.length).ble r19.length) <|
 gd ((0 + r3.length).ble r3.length) <|
 entK ok2_LB ea2_LB (f_eqLB) [(0, false, [C.tr false (T.arr 1 r19.length (cutT 0 r19.length (atL rowB r19)))]),
  (0, false, [C.tr false (T.arr 1 r3.length (cutT 0 r3.length (atL rowB r3)))])] fun (r20 : Bool) =>
 bif !r20 then
  K .ret [(16, ⟨z0, [(false, [.tr true (T.bool false)])]⟩)]
 else
 K .normal (sq_xBytesSeen_20 w h r16)) := by kernel_rfl
def sq_xBytesSeen_21 (w : Wd) (h : Hd) (r16 : List UInt8 × Int) : St := [(32, ⟨z0, [(false, [.tr true (.arr (1) ((f_mkLB r16).length) (atL rowB (f_mkLB r16)))])]⟩), (40, ⟨z0, [(false, [.tr true (T.int IntKind.i64 (f_ctLB r16))])]⟩), (44, ⟨z0, [(false, [.tr true (T.int IntKind.i64 1)])]⟩)]
theorem sg_xBytesSeen_20 (w : Wd) (h : Hd) (r16 : List UInt8 × Int) (n : Nat) (K : Ex → St → Res) : atP prog (tabS [(i_SzWd, e_SzWd), (i_ToWd, e_ToWd), (i_toHd, e_toHd), (i_sBs, e_sBs), (i_iBs, e_iBs), (i_eqLB, e_eqLB), (i_EqWd, e_EqWd), (i_mkWd, e_mkWd), (i_mkLB, e_mkLB), (i_hdLB, e_hdLB)]) kp_xBytesSeen F_xBytesSeen [1, 1, 1, 1, 1, 1, 1, 1, 1, 1, 1, 1, 1, 1, 1, 1, 1, 1, 1, 1, 0] n (sq_xBytesSeen_20 w h r16) K = (
 K .normal (sq_xBytesSeen_21 w h r16)) := by kernel_rfl
def sq_xBytesSeen_22 (w : Wd) (h : Hd) (r16 : List UInt8 × Int) (r21 : Int) : St := [(40, ⟨z0, [(false, [.tr true (T.int IntKind.i64 (f_ctLB r16))])]⟩), (44, ⟨z0, [(false, [.tr true (T.int IntKind.i64 r21)])]⟩)]
theorem sg_xBytesSeen_21 (w : Wd) (h : Hd) (r16 : List UInt8 × Int) (n : Nat) (K : Ex → St → Res) : atP prog (tabS [(i_SzWd, e_SzWd), (i_ToWd, e_ToWd), (i_toHd, e_toHd), (i_sBs, e_sBs), (i_iBs, e_iBs), (i_eqLB, e_eqLB), (i_EqWd, e_EqWd), (i_mkWd, e_mkWd), (i_mkLB, e_mkLB), (i_hdLB, e_hdLB)]) kp_xBytesSeen F_xBytesSeen [1, 1, 1, 1, 1, 1, 1, 1, 1, 1, 1, 1, 1, 1, 1, 1, 1, 1, 1, 1, 1, 0] n (sq_xBytesSeen_21 w h r16) K = (
 gd ((0 + (f_mkLB r16).length).ble (f_mkLB r16).length) <|
 entK okh_LB eah_LB (f_hdLB) [(0, false,
    [C.tr false
        (T.arr 1 (f_mkLB r16).length (cutT 0 (f_mkLB r16).length (atL rowB (f_mkLB r16))))]),
  (0, false, [C.tr false (T.int IntKind.i64 1)])] fun (r21 : Int) =>
 K .normal (sq_xBytesSeen_22 w h r16 r21)) := by kernel_rfl
def sq_xBytesSeen_23 (w : Wd) (h : Hd) (r16 : List UInt8 × Int) (r21 : Int) : St := [(40, ⟨z0, [(false, [.tr true (T.int IntKind.i64 (f_ctLB r16))])]⟩), (44, ⟨z0, [(false, [.tr true (T.int IntKind.i64 r21)])]⟩), (292, ⟨z0, []⟩)]
theorem sg_xBytesSeen_22 (w : Wd) (h : Hd) (r16 : List UInt8 × Int) (r21 : Int) (n : Nat) (K : Ex → St → Res) : atP prog (tabS [(i_SzWd, e_SzWd), (i_ToWd, e_ToWd), (i_toHd, e_toHd), (i_sBs, e_sBs), (i_iBs, e_iBs), (i_eqLB, e_eqLB), (i_EqWd, e_EqWd), (i_mkWd, e_mkWd), (i_mkLB, e_mkLB), (i_hdLB, e_hdLB)]) kp_xBytesSeen F_xBytesSeen [1, 1, 1, 1, 1, 1, 1, 1, 1, 1, 1, 1, 1, 1, 1, 1, 1, 1, 1, 1, 1, 1, 0] n (sq_xBytesSeen_22 w h r16 r21) K = (
 bif decide (r21 < 0) then
  K .ret [(16, ⟨z0, [(false, [.tr true (T.bool false)])]⟩)]
 else
 K .normal (sq_xBytesSeen_23 w h r16 r21)) := by kernel_rfl
def sq_xBytesSeen_24 (w : Wd) (h : Hd) : St := [(304, ⟨z0, []⟩)]
theorem sg_xBytesSeen_23 (w : Wd) (h : Hd) (r16 : List UInt8 × Int) (r21 : Int) (n : Nat) (K : Ex → St → Res) : atP prog (tabS [(i_SzWd, e_SzWd), (i_ToWd, e_ToWd), (i_toHd, e_toHd), (i_sBs, e_sBs), (i_iBs, e_iBs), (i_eqLB, e_eqLB), (i_EqWd, e_EqWd), (i_mkWd, e_mkWd), (i_mkLB, e_mkLB), (i_hdLB, e_hdLB)]) kp_xBytesSeen F_xBytesSeen [1, 1, 1, 1, 1, 1, 1, 1, 1, 1, 1, 1, 1, 1, 1, 1, 1, 1, 1, 1, 1, 1, 1, 0] n (sq_xBytesSeen_23 w h r16 r21) K = (
 bif r21 != f_ctLB r16 then
  K .ret [(16, ⟨z0, [(false, [.tr true (T.bool false)])]⟩)]
 else
 K .normal (sq_xBytesSeen_24 w h)) := by kernel_rfl
def sq_xBytesSeen_25 (w : Wd) (h : Hd) : St := [(16, ⟨z0, [(false, [.tr true (T.bool true)])]⟩)]
theorem sg_xBytesSeen_24 (w : Wd) (h : Hd) (n : Nat) (K : Ex → St → Res) : atP prog (tabS [(i_SzWd, e_SzWd), (i_ToWd, e_ToWd), (i_toHd, e_toHd), (i_sBs, e_sBs), (i_iBs, e_iBs), (i_eqLB, e_eqLB), (i_EqWd, e_EqWd), (i_mkWd, e_mkWd), (i_mkLB, e_mkLB), (i_hdLB, e_hdLB)]) kp_xBytesSeen F_xBytesSeen [1, 1, 1, 1, 1, 1, 1, 1, 1, 1, 1, 1, 1, 1, 1, 1, 1, 1, 1, 1, 1, 1, 1, 1, 0] n (sq_xBytesSeen_24 w h) K = (
 K .normal (sq_xBytesSeen_25 w h)) := by kernel_rfl
theorem sg_xBytesSeen_25 (w : Wd) (h : Hd) (n : Nat) (K : Ex → St → Res) : atP prog (tabS [(i_SzWd, e_SzWd), (i_ToWd, e_ToWd), (i_toHd, e_toHd), (i_sBs, e_sBs), (i_iBs, e_iBs), (i_eqLB, e_eqLB), (i_EqWd, e_EqWd), (i_mkWd, e_mkWd), (i_mkLB, e_mkLB), (i_hdLB, e_hdLB)]) kp_xBytesSeen F_xBytesSeen [1, 1, 1, 1, 1, 1, 1, 1, 1, 1, 1, 1, 1, 1, 1, 1, 1, 1, 1, 1, 1, 1, 1, 1, 1] n (sq_xBytesSeen_25 w h) K = (
 K .ret [(16, ⟨z0, [(false, [.tr true (T.bool true)])]⟩)]) := by kernel_rfl
theorem body_xBytesSeen (w : Wd) (h : Hd) (hw : z_Wd w) (hh : z_Hd h) (hu : ndx w.l) (hv : upI w.l) (hi : inI h.slot) (n : Nat) : body prog (tabS [(i_SzWd, e_SzWd), (i_ToWd, e_ToWd), (i_toHd, e_toHd), (i_sBs, e_sBs), (i_iBs, e_iBs), (i_eqLB, e_eqLB), (i_EqWd, e_EqWd), (i_mkWd, e_mkWd), (i_mkLB, e_mkLB), (i_hdLB, e_hdLB)]) kp_xBytesSeen n F_xBytesSeen [aR w.cs, aR h.cs] = some (erB 2 true) := by
  have hzm := zm
  have hlm := lm
  have hbm := bm
  have rsx := And.intro @lt_d (And.intro @ge0_d (And.intro @Int.toNat_natCast (And.intro @blt_d (And.intro @ble_self (And.intro @beq_self (And.intro @decide_true (And.intro @cond_true.{1} (And.intro @Bool.and_self (And.intro @Bool.and_true (And.intro @Bool.true_and (And.intro @gd_true (And.intro @Nat.zero_add (And.intro @List.getD_cons_zero.{0} (And.intro @List.getD_cons_succ.{0} (And.intro @isI_int (And.intro @toI_int (And.intro @isB_bool (And.intro @toB_bool (And.intro @eL_T (And.intro @arr_ln (And.intro @arr_fn (And.intro @arr_wd (And.intro @arr_is (And.intro @arr_get (And.intro @cut_all (And.intro @bool_self (And.intro @bool_nself (And.intro @int_self (And.intro @int_nself (And.intro @Bool.not_true (And.intro @Bool.not_false (And.intro @cond_false.{1} (And.intro @nextP_n @nextP_r)))))))))))))))))))))))))))))))))
  rw [body_at _ _ _ _ _ _ (by kernel_rfl), show initA F_xBytesSeen.ntmps 0 [aR w.cs, aR h.cs] = sq_xBytesSeen_0 w h from by kernel_rfl]
  have y0 : ok_SzWd (w, 1048576) := ⟨hw, by dsimp only; omega, by dsimp only; omega⟩
  by_cases e0 : (n_Wd w : Int) ≤ 1048576
  case neg =>
    rw [atP_seq (p := []) (q0 := [0]) (q1 := [1]) (by kernel_rfl) rfl rfl]
    rw [sg_xBytesSeen_0]
    try simp (implicitDefEqProofs := false) only [rsx, Wd.cs, Hd.cs, n_SzWd e0, decide_eq_true (show (-1 : Int) < 0 by omega)]
    rw [atP_seq (p := [1]) (q0 := [1, 0]) (q1 := [1, 1]) (by kernel_rfl) rfl rfl]
    rw [sg_xBytesSeen_1]
    try simp (implicitDefEqProofs := false) only [rsx, Wd.cs, Hd.cs, n_SzWd e0, decide_eq_true (show (-1 : Int) < 0 by omega)]
    rw [atP_seq (p := [1, 1]) (q0 := [1, 1, 0]) (q1 := [1, 1, 1]) (by kernel_rfl) rfl rfl]
    rw [sg_xBytesSeen_2]
    try simp (implicitDefEqProofs := false) only [rsx, Wd.cs, Hd.cs, n_SzWd e0, decide_eq_true (show (-1 : Int) < 0 by omega)]
    rw [entK_of (dm_SzWd y0) (iv_SzWd y0)]
    try simp (implicitDefEqProofs := false) only [rsx, Wd.cs, Hd.cs, n_SzWd e0, decide_eq_true (show (-1 : Int) < 0 by omega)]
    rw [atP_seq (p := [1, 1, 1]) (q0 := [1, 1, 1, 0]) (q1 := [1, 1, 1, 1]) (by kernel_rfl) rfl rfl]
    rw [sg_xBytesSeen_3]
    try simp (implicitDefEqProofs := false) only [rsx, Wd.cs, Hd.cs, n_SzWd e0, decide_eq_true (show (-1 : Int) < 0 by omega)]
    rfl
  have f0 : ¬ 1048576 - (n_Wd w : Int) < 0 := by omega
  obtain ⟨g0, q0⟩ := okn_Wd (l := w) (by omega)
  have c0 : ok_sBs (w, h) := ⟨⟨g0.2.2.2.1.1, g0.1, hi, ndI_of g0.2.2.2.1 hu, hv⟩, bsn_len e0⟩
  have c1 : ok_iBs (w, h) := ⟨⟨g0.2.2.2.1.1, g0.1, hi, ndI_of g0.2.2.2.1 hu, hv⟩, bsn_len e0⟩
  have c2 : ok_EqWd (w, w) := q0
  have hn0 : n_Wd w = n_LB w.p.mem + n_LI w.p.st + n_LI w.p.own + n_NdS w.l + n_WsS w.q + n_LI w.log := rfl
  have hb0 := cb_LB w.p.mem
  have hk0 : okh_LB (w.p.mem, 1) := ⟨q0.1, by dsimp only; omega, by dsimp only; omega⟩
  have hb1 := cb_LI w.p.st
  have hk1 : okh_LI (w.p.st, 1 + (cntL c1_LB w.p.mem : Int)) := ⟨q0.2.1, by dsimp only; omega, by dsimp only; omega⟩
  have hb2 := cb_LI w.p.own
  have hk2 : okh_LI (w.p.own, 1 + (cntL c1_LB w.p.mem : Int) + (cntL c1_LI w.p.st : Int)) := ⟨q0.2.2.1, by dsimp only; omega, by dsimp only; omega⟩
  have hb3 := cb_NdS w.l
  have hk3 : okh_NdS (w.l, 1 + (cntL c1_LB w.p.mem : Int) + (cntL c1_LI w.p.st : Int) + (cntL c1_LI w.p.own : Int)) := ⟨q0.2.2.2.1, by dsimp only; omega, by dsimp only; omega⟩
  have hb4 := cb_WsS w.q
  have hk4 : okh_WsS (w.q, 1 + (cntL c1_LB w.p.mem : Int) + (cntL c1_LI w.p.st : Int) + (cntL c1_LI w.p.own : Int) + (cntL c1_NdS w.l : Int)) := ⟨q0.2.2.2.2.1, by dsimp only; omega, by dsimp only; omega⟩
  have hb5 := cb_LI w.log
  have hk5 : okh_LI (w.log, 1 + (cntL c1_LB w.p.mem : Int) + (cntL c1_LI w.p.st : Int) + (cntL c1_LI w.p.own : Int) + (cntL c1_NdS w.l : Int) + (cntL c1_WsS w.q : Int)) := ⟨q0.2.2.2.2.2, by dsimp only; omega, by dsimp only; omega⟩
  have hkm : ¬ 1 + (cntL c1_LB w.p.mem : Int) + (cntL c1_LI w.p.st : Int) + (cntL c1_LI w.p.own : Int) + (cntL c1_NdS w.l : Int) + (cntL c1_WsS w.q : Int) + (cntL c1_LI w.log : Int) < 0 := by omega
  have hel := bsn_len (h := h) e0
  have hcs := ct_LB (bsn w h)
  have hql : okq_LB (bsn w h) := by unfold okq_LB; omega
  have mq0 : okq_LB (bsn w h) := hql
  have mh0 : okh_LB ((bsn w h), 1) := ⟨mq0, by dsimp only; omega, by dsimp only; omega⟩
  have mg0 : okh_LB (mk_LB (bsn w h) (1), 1) := ⟨okqmk_LB mq0, by dsimp only; omega, by dsimp only; rw [ctmk_LB]; omega⟩
  have mn1 : ¬ 1 + (cntL c1_LB (bsn w h) : Int) < 0 := by omega
  have fx := And.intro (y_SzWd e0) (And.intro (decide_eq_false f0) (And.intro @d_ToWd (And.intro @d_sBs (And.intro @d_iBs (And.intro @d_EqWd (And.intro (decide_eq_false hkm) (And.intro @hdmk_LB (And.intro (decide_eq_false mn1) (And.intro @d_mkLB (And.intro @d_ctLB (And.intro @beq_mkLB (And.intro @d_mkLI (And.intro @d_ctLI (And.intro @beq_mkLI (And.intro @d_mkNdS (And.intro @d_ctNdS (And.intro @beq_mkNdS (And.intro @d_mkWsS (And.intro @d_ctWsS (And.intro @beq_mkWsS @d_eqLB))))))))))))))))))))
  rw [atP_seq (p := []) (q0 := [0]) (q1 := [1]) (by kernel_rfl) rfl rfl]
  rw [sg_xBytesSeen_0]
  try simp (implicitDefEqProofs := false) only [rsx, Wd.cs, Hd.cs, fx]
  rw [atP_seq (p := [1]) (q0 := [1, 0]) (q1 := [1, 1]) (by kernel_rfl) rfl rfl]
  rw [sg_xBytesSeen_1]
  try simp (implicitDefEqProofs := false) only [rsx, Wd.cs, Hd.cs, fx]
  rw [atP_seq (p := [1, 1]) (q0 := [1, 1, 0]) (q1 := [1, 1, 1]) (by kernel_rfl) rfl rfl]
  rw [sg_xBytesSeen_2]
  try simp (implicitDefEqProofs := false) only [rsx, Wd.cs, Hd.cs, fx]
  rw [entK_of (dm_SzWd y0) (iv_SzWd y0)]
  try simp (implicitDefEqProofs := false) only [rsx, Wd.cs, Hd.cs, fx]
  rw [atP_seq (p := [1, 1, 1]) (q0 := [1, 1, 1, 0]) (q1 := [1, 1, 1, 1]) (by kernel_rfl) rfl rfl]
  rw [sg_xBytesSeen_3]
  try simp (implicitDefEqProofs := false) only [rsx, Wd.cs, Hd.cs, fx]
  rw [atP_seq (p := [1, 1, 1, 1]) (q0 := [1, 1, 1, 1, 0]) (q1 := [1, 1, 1, 1, 1]) (by kernel_rfl) rfl rfl]
  rw [sg_xBytesSeen_4]
  try simp (implicitDefEqProofs := false) only [rsx, Wd.cs, Hd.cs, fx]
  rw [entK_of (dm_ToWd g0) (iv_ToWd g0)]
  try simp (implicitDefEqProofs := false) only [rsx, Wd.cs, Hd.cs, fx]
  rw [entK_of (dm_sBs c0) (iv_sBs c0)]
  try simp (implicitDefEqProofs := false) only [rsx, Wd.cs, Hd.cs, fx]
  rw [atP_seq (p := [1, 1, 1, 1, 1]) (q0 := [1, 1, 1, 1, 1, 0]) (q1 := [1, 1, 1, 1, 1, 1]) (by kernel_rfl) rfl rfl]
  rw [sg_xBytesSeen_5]
  try simp (implicitDefEqProofs := false) only [rsx, Wd.cs, Hd.cs, fx]
  rw [entK_of (dm_ToWd g0) (iv_ToWd g0)]
  try simp (implicitDefEqProofs := false) only [rsx, Wd.cs, Hd.cs, fx]
  rw [atP_seq (p := [1, 1, 1, 1, 1, 1]) (q0 := [1, 1, 1, 1, 1, 1, 0]) (q1 := [1, 1, 1, 1, 1, 1, 1]) (by kernel_rfl) rfl rfl]
  rw [sg_xBytesSeen_6]
  try simp (implicitDefEqProofs := false) only [rsx, Wd.cs, Hd.cs, fx]
  rw [entK_of (dm_iBs c1) (iv_iBs c1)]
  try simp (implicitDefEqProofs := false) only [rsx, Wd.cs, Hd.cs, fx]
  rw [atP_seq (p := [1, 1, 1, 1, 1, 1, 1]) (q0 := [1, 1, 1, 1, 1, 1, 1, 0]) (q1 := [1, 1, 1, 1, 1, 1, 1, 1]) (by kernel_rfl) rfl rfl]
  rw [sg_xBytesSeen_7]
  try simp (implicitDefEqProofs := false) only [rsx, Wd.cs, Hd.cs, fx]
  rw [entK_of (dm_eqLB hql) (iv_eqLB hql)]
  try simp (implicitDefEqProofs := false) only [rsx, Wd.cs, Hd.cs, fx]
  rw [atP_seq (p := [1, 1, 1, 1, 1, 1, 1, 1]) (q0 := [1, 1, 1, 1, 1, 1, 1, 1, 0]) (q1 := [1, 1, 1, 1, 1, 1, 1, 1, 1]) (by kernel_rfl) rfl rfl]
  rw [sg_xBytesSeen_8]
  try simp (implicitDefEqProofs := false) only [rsx, Wd.cs, Hd.cs, fx]
  rw [entK_of (dm_ToWd g0) (iv_ToWd g0)]
  try simp (implicitDefEqProofs := false) only [rsx, Wd.cs, Hd.cs, fx]
  rw [entK_of (dm_EqWd c2) (iv_EqWd c2)]
  try simp (implicitDefEqProofs := false) only [rsx, Wd.cs, Hd.cs, fx]
  rw [atP_seq (p := [1, 1, 1, 1, 1, 1, 1, 1, 1]) (q0 := [1, 1, 1, 1, 1, 1, 1, 1, 1, 0]) (q1 := [1, 1, 1, 1, 1, 1, 1, 1, 1, 1]) (by kernel_rfl) rfl rfl]
  rw [sg_xBytesSeen_9]
  try simp (implicitDefEqProofs := false) only [rsx, Wd.cs, Hd.cs, fx]
  rw [atP_seq (p := [1, 1, 1, 1, 1, 1, 1, 1, 1, 1]) (q0 := [1, 1, 1, 1, 1, 1, 1, 1, 1, 1, 0]) (q1 := [1, 1, 1, 1, 1, 1, 1, 1, 1, 1, 1]) (by kernel_rfl) rfl rfl]
  rw [sg_xBytesSeen_10]
  try simp (implicitDefEqProofs := false) only [rsx, Wd.cs, Hd.cs, fx]
  rw [entK_of (dm_mkLB hk0) (iv_mkLB hk0)]
  try simp (implicitDefEqProofs := false) only [rsx, Wd.cs, Hd.cs, fx]
  rw [entK_of (dm_mkLI hk1) (iv_mkLI hk1)]
  try simp (implicitDefEqProofs := false) only [rsx, Wd.cs, Hd.cs, fx]
  rw [entK_of (dm_mkLI hk2) (iv_mkLI hk2)]
  try simp (implicitDefEqProofs := false) only [rsx, Wd.cs, Hd.cs, fx]
  rw [entK_of (dm_mkNdS hk3) (iv_mkNdS hk3)]
  try simp (implicitDefEqProofs := false) only [rsx, Wd.cs, Hd.cs, fx]
  rw [entK_of (dm_mkWsS hk4) (iv_mkWsS hk4)]
  try simp (implicitDefEqProofs := false) only [rsx, Wd.cs, Hd.cs, fx]
  rw [entK_of (dm_mkLI hk5) (iv_mkLI hk5)]
  try simp (implicitDefEqProofs := false) only [rsx, Wd.cs, Hd.cs, fx]
  rw [atP_seq (p := [1, 1, 1, 1, 1, 1, 1, 1, 1, 1, 1]) (q0 := [1, 1, 1, 1, 1, 1, 1, 1, 1, 1, 1, 0]) (q1 := [1, 1, 1, 1, 1, 1, 1, 1, 1, 1, 1, 1]) (by kernel_rfl) rfl rfl]
  rw [sg_xBytesSeen_11]
  try simp (implicitDefEqProofs := false) only [rsx, Wd.cs, Hd.cs, fx]
  rw [entK_of (dm_eqLB hql) (iv_eqLB hql)]
  try simp (implicitDefEqProofs := false) only [rsx, Wd.cs, Hd.cs, fx]
  rw [atP_seq (p := [1, 1, 1, 1, 1, 1, 1, 1, 1, 1, 1, 1]) (q0 := [1, 1, 1, 1, 1, 1, 1, 1, 1, 1, 1, 1, 0]) (q1 := [1, 1, 1, 1, 1, 1, 1, 1, 1, 1, 1, 1, 1]) (by kernel_rfl) rfl rfl]
  rw [sg_xBytesSeen_12]
  try simp (implicitDefEqProofs := false) only [rsx, Wd.cs, Hd.cs, fx]
  rw [atP_seq (p := [1, 1, 1, 1, 1, 1, 1, 1, 1, 1, 1, 1, 1]) (q0 := [1, 1, 1, 1, 1, 1, 1, 1, 1, 1, 1, 1, 1, 0]) (q1 := [1, 1, 1, 1, 1, 1, 1, 1, 1, 1, 1, 1, 1, 1]) (by kernel_rfl) rfl rfl]
  rw [sg_xBytesSeen_13]
  try simp (implicitDefEqProofs := false) only [rsx, Wd.cs, Hd.cs, fx]
  rw [entK_of (dm_mkLB mh0) (iv_mkLB mh0)]
  try simp (implicitDefEqProofs := false) only [rsx, Wd.cs, Hd.cs, fx]
  rw [atP_seq (p := [1, 1, 1, 1, 1, 1, 1, 1, 1, 1, 1, 1, 1, 1]) (q0 := [1, 1, 1, 1, 1, 1, 1, 1, 1, 1, 1, 1, 1, 1, 0]) (q1 := [1, 1, 1, 1, 1, 1, 1, 1, 1, 1, 1, 1, 1, 1, 1]) (by kernel_rfl) rfl rfl]
  rw [sg_xBytesSeen_14]
  try simp (implicitDefEqProofs := false) only [rsx, Wd.cs, Hd.cs, fx]
  rw [atP_seq (p := [1, 1, 1, 1, 1, 1, 1, 1, 1, 1, 1, 1, 1, 1, 1]) (q0 := [1, 1, 1, 1, 1, 1, 1, 1, 1, 1, 1, 1, 1, 1, 1, 0]) (q1 := [1, 1, 1, 1, 1, 1, 1, 1, 1, 1, 1, 1, 1, 1, 1, 1]) (by kernel_rfl) rfl rfl]
  rw [sg_xBytesSeen_15]
  try simp (implicitDefEqProofs := false) only [rsx, Wd.cs, Hd.cs, fx]
  rw [entK_of (dm_hdLB mg0) (iv_hdLB mg0)]
  try simp (implicitDefEqProofs := false) only [rsx, Wd.cs, Hd.cs, fx]
  rw [atP_seq (p := [1, 1, 1, 1, 1, 1, 1, 1, 1, 1, 1, 1, 1, 1, 1, 1]) (q0 := [1, 1, 1, 1, 1, 1, 1, 1, 1, 1, 1, 1, 1, 1, 1, 1, 0]) (q1 := [1, 1, 1, 1, 1, 1, 1, 1, 1, 1, 1, 1, 1, 1, 1, 1, 1]) (by kernel_rfl) rfl rfl]
  rw [sg_xBytesSeen_16]
  try simp (implicitDefEqProofs := false) only [rsx, Wd.cs, Hd.cs, fx]
  rw [atP_seq (p := [1, 1, 1, 1, 1, 1, 1, 1, 1, 1, 1, 1, 1, 1, 1, 1, 1]) (q0 := [1, 1, 1, 1, 1, 1, 1, 1, 1, 1, 1, 1, 1, 1, 1, 1, 1, 0]) (q1 := [1, 1, 1, 1, 1, 1, 1, 1, 1, 1, 1, 1, 1, 1, 1, 1, 1, 1]) (by kernel_rfl) rfl rfl]
  rw [sg_xBytesSeen_17]
  try simp (implicitDefEqProofs := false) only [rsx, Wd.cs, Hd.cs, fx]
  rw [atP_seq (p := [1, 1, 1, 1, 1, 1, 1, 1, 1, 1, 1, 1, 1, 1, 1, 1, 1, 1]) (q0 := [1, 1, 1, 1, 1, 1, 1, 1, 1, 1, 1, 1, 1, 1, 1, 1, 1, 1, 0]) (q1 := [1, 1, 1, 1, 1, 1, 1, 1, 1, 1, 1, 1, 1, 1, 1, 1, 1, 1, 1]) (by kernel_rfl) rfl rfl]
  rw [sg_xBytesSeen_18]
  try simp (implicitDefEqProofs := false) only [rsx, Wd.cs, Hd.cs, fx]
  rw [entK_of (dm_ToWd g0) (iv_ToWd g0)]
  try simp (implicitDefEqProofs := false) only [rsx, Wd.cs, Hd.cs, fx]
  rw [entK_of (dm_iBs c1) (iv_iBs c1)]
  try simp (implicitDefEqProofs := false) only [rsx, Wd.cs, Hd.cs, fx]
  rw [atP_seq (p := [1, 1, 1, 1, 1, 1, 1, 1, 1, 1, 1, 1, 1, 1, 1, 1, 1, 1, 1]) (q0 := [1, 1, 1, 1, 1, 1, 1, 1, 1, 1, 1, 1, 1, 1, 1, 1, 1, 1, 1, 0]) (q1 := [1, 1, 1, 1, 1, 1, 1, 1, 1, 1, 1, 1, 1, 1, 1, 1, 1, 1, 1, 1]) (by kernel_rfl) rfl rfl]
  rw [sg_xBytesSeen_19]
  try simp (implicitDefEqProofs := false) only [rsx, Wd.cs, Hd.cs, fx]
  rw [entK_of (dm_eqLB hql) (iv_eqLB hql)]
  try simp (implicitDefEqProofs := false) only [rsx, Wd.cs, Hd.cs, fx]
  rw [atP_seq (p := [1, 1, 1, 1, 1, 1, 1, 1, 1, 1, 1, 1, 1, 1, 1, 1, 1, 1, 1, 1]) (q0 := [1, 1, 1, 1, 1, 1, 1, 1, 1, 1, 1, 1, 1, 1, 1, 1, 1, 1, 1, 1, 0]) (q1 := [1, 1, 1, 1, 1, 1, 1, 1, 1, 1, 1, 1, 1, 1, 1, 1, 1, 1, 1, 1, 1]) (by kernel_rfl) rfl rfl]
  rw [sg_xBytesSeen_20]
  try simp (implicitDefEqProofs := false) only [rsx, Wd.cs, Hd.cs, fx]
  rw [atP_seq (p := [1, 1, 1, 1, 1, 1, 1, 1, 1, 1, 1, 1, 1, 1, 1, 1, 1, 1, 1, 1, 1]) (q0 := [1, 1, 1, 1, 1, 1, 1, 1, 1, 1, 1, 1, 1, 1, 1, 1, 1, 1, 1, 1, 1, 0]) (q1 := [1, 1, 1, 1, 1, 1, 1, 1, 1, 1, 1, 1, 1, 1, 1, 1, 1, 1, 1, 1, 1, 1]) (by kernel_rfl) rfl rfl]
  rw [sg_xBytesSeen_21]
  try simp (implicitDefEqProofs := false) only [rsx, Wd.cs, Hd.cs, fx]
  rw [entK_of (dm_hdLB mg0) (iv_hdLB mg0)]
  try simp (implicitDefEqProofs := false) only [rsx, Wd.cs, Hd.cs, fx]
  rw [atP_seq (p := [1, 1, 1, 1, 1, 1, 1, 1, 1, 1, 1, 1, 1, 1, 1, 1, 1, 1, 1, 1, 1, 1]) (q0 := [1, 1, 1, 1, 1, 1, 1, 1, 1, 1, 1, 1, 1, 1, 1, 1, 1, 1, 1, 1, 1, 1, 0]) (q1 := [1, 1, 1, 1, 1, 1, 1, 1, 1, 1, 1, 1, 1, 1, 1, 1, 1, 1, 1, 1, 1, 1, 1]) (by kernel_rfl) rfl rfl]
  rw [sg_xBytesSeen_22]
  try simp (implicitDefEqProofs := false) only [rsx, Wd.cs, Hd.cs, fx]
  rw [atP_seq (p := [1, 1, 1, 1, 1, 1, 1, 1, 1, 1, 1, 1, 1, 1, 1, 1, 1, 1, 1, 1, 1, 1, 1]) (q0 := [1, 1, 1, 1, 1, 1, 1, 1, 1, 1, 1, 1, 1, 1, 1, 1, 1, 1, 1, 1, 1, 1, 1, 0]) (q1 := [1, 1, 1, 1, 1, 1, 1, 1, 1, 1, 1, 1, 1, 1, 1, 1, 1, 1, 1, 1, 1, 1, 1, 1]) (by kernel_rfl) rfl rfl]
  rw [sg_xBytesSeen_23]
  try simp (implicitDefEqProofs := false) only [rsx, Wd.cs, Hd.cs, fx]
  rw [atP_seq (p := [1, 1, 1, 1, 1, 1, 1, 1, 1, 1, 1, 1, 1, 1, 1, 1, 1, 1, 1, 1, 1, 1, 1, 1]) (q0 := [1, 1, 1, 1, 1, 1, 1, 1, 1, 1, 1, 1, 1, 1, 1, 1, 1, 1, 1, 1, 1, 1, 1, 1, 0]) (q1 := [1, 1, 1, 1, 1, 1, 1, 1, 1, 1, 1, 1, 1, 1, 1, 1, 1, 1, 1, 1, 1, 1, 1, 1, 1]) (by kernel_rfl) rfl rfl]
  rw [sg_xBytesSeen_24]
  try simp (implicitDefEqProofs := false) only [rsx, Wd.cs, Hd.cs, fx]
  rw [sg_xBytesSeen_25]
  try simp (implicitDefEqProofs := false) only [rsx, Wd.cs, Hd.cs, fx]
  rfl
theorem sd_xBytesSeen (w : Wd) (h : Hd) (hw : z_Wd w) (hh : z_Hd h) (hu : ndx w.l) (hv : upI w.l) (hi : inI h.slot) : Sound prog i_xBytesSeen [aR w.cs, aR h.cs] (erB 2 true).1 (erB 2 true).2 :=
  body_sound (φ := (tabS [(i_SzWd, e_SzWd), (i_ToWd, e_ToWd), (i_toHd, e_toHd), (i_sBs, e_sBs), (i_iBs, e_iBs), (i_eqLB, e_eqLB), (i_EqWd, e_EqWd), (i_mkWd, e_mkWd), (i_mkLB, e_mkLB), (i_hdLB, e_hdLB)])) (tabS_cons s_SzWd (tabS_cons s_ToWd (tabS_cons s_toHd (tabS_cons s_sBs (tabS_cons s_iBs (tabS_cons s_eqLB (tabS_cons s_EqWd (tabS_cons s_mkWd (tabS_cons s_mkLB (tabS_cons s_hdLB tabS_nil)))))))))) mixed (kp := kp_xBytesSeen) (n := 0) func5 (c := bodyOf F_xBytesSeen) (by kernel_rfl) (body_xBytesSeen w h hw hh hu hv hi 0) (name_ok (by kernel_rfl))
end Go.Mach.F
end
