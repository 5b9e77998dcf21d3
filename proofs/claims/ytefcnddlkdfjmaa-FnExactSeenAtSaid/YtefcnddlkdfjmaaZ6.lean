/- Lemmas and definitions of the proof (Od). Conditions: none. -/
import Derived.Test.YtefcnddlkdfjmaaZ5
set_option linter.all false
section
set_option maxRecDepth 100000
set_option maxHeartbeats 4000000
namespace Go.Mach.F
open Go Go.Mach Go.Proofs.Try
def i_xSeenAt : Nat := 6
noncomputable abbrev F_xSeenAt : Func := f6
def kp_xSeenAt : List (Nat × List Nat) := [(0, [8, 9, 12, 13, 24, 25, 32, 33, 88, 112, 176, 180, 184, 188]), (1, [8, 9, 12, 13, 20, 24, 25, 32, 33, 88, 112, 176, 180, 184, 188]), (2, [8, 9, 12, 13, 20, 24, 25, 32, 33, 88, 112, 176, 180, 184, 188]), (3, [8, 9, 12, 13, 24, 25, 32, 33, 68, 88, 112, 176, 180, 184, 188]), (4, [16]), (5, [8, 9, 12, 13, 24, 25, 32, 33, 88, 112, 176, 180, 184, 188]), (6, [8, 9, 12, 13, 24, 25, 28, 29, 32, 33, 88, 96, 112, 176, 180, 184, 188]), (7, [8, 9, 12, 13, 24, 25, 28, 29, 32, 33, 88, 96, 112, 176, 180, 184, 188]), (8, [8, 9, 12, 13, 24, 25, 28, 29, 32, 33, 88, 96, 112, 128, 176, 180, 184, 188]), (9, [16]), (10, [8, 9, 12, 13, 24, 25, 28, 29, 32, 33, 88, 96, 112, 148, 176, 180, 184, 188]), (11, [16]), (12, [8, 9, 12, 13, 24, 25, 28, 29, 32, 33, 36, 88, 96, 112, 176, 180, 184, 188]), (13, [8, 9, 12, 13, 24, 25, 32, 33, 36, 88, 112, 176, 180, 184, 188]), (14, [8, 9, 12, 13, 24, 25, 32, 33, 88, 112, 192]), (15, [16]), (16, [8, 9, 12, 13, 24, 25, 32, 33, 40, 88, 112]), (17, [8, 9, 12, 13, 24, 25, 32, 33, 40, 88, 112]), (18, [8, 9, 12, 13, 24, 25, 32, 33, 40, 44, 88, 112]), (19, [8, 9, 12, 13, 24, 25, 32, 33, 40, 44, 88, 112]), (20, [8, 9, 12, 13, 24, 25, 32, 33, 40, 44, 88, 112, 224]), (21, [16]), (22, [8, 9, 12, 13, 24, 25, 32, 33, 40, 88, 112, 236]), (23, [16]), (24, [24, 25, 32, 33, 40, 48, 49, 88, 112, 256]), (25, [32, 33, 40, 112, 272]), (26, [16]), (27, [32, 33, 40, 44, 112]), (28, [40, 44]), (29, [40, 44, 292]), (30, [16]), (31, [304]), (32, [16]), (33, [16])]
def sq_xSeenAt_0 (w : Wd) (h : Hd) : St := initA 77 0 [aR w.cs, aR h.cs]
def ce_xSeenAt_0 (w : Wd) : Nat × Ct := (9, ⟨z0, [(true, [.tr true (T.int IntKind.i64 w.c.1), .tr true (T.int IntKind.i64 w.c.2), .tr true (T.int IntKind.i64 w.c.3), .tr true (T.int IntKind.i64 w.c.4), .tr true (T.int IntKind.i64 w.c.5), .tr true (T.int IntKind.i64 w.c.6), .tr false (eL 1 rowB w.p.1), .tr false (eL 1 rowI w.p.2), .tr false (eL 1 rowI w.p.3), .tr false (eL 13 Nd.cs w.3), .tr false (eL 5 Ws.cs w.4), .tr false (eL 1 rowI w.5)])]⟩)
def sq_xSeenAt_1 (w : Wd) (h : Hd) : St := [(8, ⟨z0, [(false, [(C.pt (Pt.ptr 9 0 [] 12 0 0))])]⟩), (ce_xSeenAt_0 w), (12, ⟨z0, [(false, [(C.pt (Pt.ptr 13 0 [] 2 0 0))])]⟩), (13, ⟨z0, [(true, [.tr true (T.int IntKind.i64 h.1), .tr true (T.int IntKind.i64 h.2)])]⟩)]
theorem sg_xSeenAt_0 (w : Wd) (h : Hd) (n : Nat) (K : Ex → St → Res) : atP prog (tabS [(i_SzWd, e_SzWd), (i_ToWd, e_ToWd), (i_toHd, e_toHd), (i_sSnAt, e_sSnAt), (i_iSnAt, e_iSnAt), (i_EqRm, e_EqRm), (i_EqWd, e_EqWd), (i_mkWd, e_mkWd), (i_mkRm, e_mkRm), (i_hdRm, e_hdRm)]) kp_xSeenAt F_xSeenAt [0] n (sq_xSeenAt_0 w h) K = (
 K .normal (sq_xSeenAt_1 w h)) := by kernel_rfl
def sq_xSeenAt_2 (w : Wd) (h : Hd) : St := [(8, ⟨z0, [(false, [(C.pt (Pt.ptr 9 0 [] 12 0 0))])]⟩), (ce_xSeenAt_0 w), (12, ⟨z0, [(false, [(C.pt (Pt.ptr 13 0 [] 2 0 0))])]⟩), (13, ⟨z0, [(true, [.tr true (T.int IntKind.i64 h.1), .tr true (T.int IntKind.i64 h.2)])]⟩), (20, ⟨z0, [(false, [.tr true (T.int IntKind.i64 1048576)])]⟩)]
theorem sg_xSeenAt_1 (w : Wd) (h : Hd) (n : Nat) (K : Ex → St → Res) : atP prog (tabS [(i_SzWd, e_SzWd), (i_ToWd, e_ToWd), (i_toHd, e_toHd), (i_sSnAt, e_sSnAt), (i_iSnAt, e_iSnAt), (i_EqRm, e_EqRm), (i_EqWd, e_EqWd), (i_mkWd, e_mkWd), (i_mkRm, e_mkRm), (i_hdRm, e_hdRm)]) kp_xSeenAt F_xSeenAt [1, 0] n (sq_xSeenAt_1 w h) K = (
 K .normal (sq_xSeenAt_2 w h)) := by kernel_rfl
def sq_xSeenAt_3 (w : Wd) (h : Hd) (r1 : Int) : St := [(8, ⟨z0, [(false, [(C.pt (Pt.ptr 9 0 [] 12 0 0))])]⟩), (ce_xSeenAt_0 w), (12, ⟨z0, [(false, [(C.pt (Pt.ptr 13 0 [] 2 0 0))])]⟩), (13, ⟨z0, [(true, [.tr true (T.int IntKind.i64 h.1), .tr true (T.int IntKind.i64 h.2)])]⟩), (20, ⟨z0, [(false, [.tr true (T.int IntKind.i64 r1)])]⟩)]
theorem sg_xSeenAt_2 (w : Wd) (h : Hd) (n : Nat) (K : Ex → St → Res) : atP prog (tabS [(i_SzWd, e_SzWd), (i_ToWd, e_ToWd), (i_toHd, e_toHd), (i_sSnAt, e_sSnAt), (i_iSnAt, e_iSnAt), (i_EqRm, e_EqRm), (i_EqWd, e_EqWd), (i_mkWd, e_mkWd), (i_mkRm, e_mkRm), (i_hdRm, e_hdRm)]) kp_xSeenAt F_xSeenAt [1, 1, 0] n (sq_xSeenAt_2 w h) K = (
 entK ok_SzWd ea_SzWd (f_SzWd) [(0, true,
    [C.tr false (T.int IntKind.i64 w.c.1), C.tr false (T.int IntKind.i64 w.c.2),
      C.tr false (T.int IntKind.i64 w.c.3), C.tr false (T.int IntKind.i64 w.c.4),
      C.tr false (T.int IntKind.i64 w.c.5), C.tr false (T.int IntKind.i64 w.c.6), C.tr false (eL 1 rowB w.p.1),
      C.tr false (eL 1 rowI w.p.2), C.tr false (eL 1 rowI w.p.3), C.tr false (eL 13 Nd.cs w.3),
      C.tr false (eL 5 Ws.cs w.4), C.tr false (eL 1 rowI w.5)]),
  (0, false, [C.tr false (T.int IntKind.i64 1048576)])] fun (r1 : Int) =>
 K .normal (sq_xSeenAt_3 w h r1)) := by kernel_rfl
def sq_xSeenAt_4 (w : Wd) (h : Hd) : St := [(8, ⟨z0, [(false, [(C.pt (Pt.ptr 9 0 [] 12 0 0))])]⟩), (ce_xSeenAt_0 w), (12, ⟨z0, [(false, [(C.pt (Pt.ptr 13 0 [] 2 0 0))])]⟩), (13, ⟨z0, [(true, [.tr true (T.int IntKind.i64 h.1), .tr true (T.int IntKind.i64 h.2)])]⟩), (68, ⟨z0, []⟩)]
theorem sg_xSeenAt_3 (w : Wd) (h : Hd) (r1 : Int) (n : Nat) (K : Ex → St → Res) : atP prog (tabS [(i_SzWd, e_SzWd), (i_ToWd, e_ToWd), (i_toHd, e_toHd), (i_sSnAt, e_sSnAt), (i_iSnAt, e_iSnAt), (i_EqRm, e_EqRm), (i_EqWd, e_EqWd), (i_mkWd, e_mkWd), (i_mkRm, e_mkRm), (i_hdRm, e_hdRm)]) kp_xSeenAt F_xSeenAt [1, 1, 1, 0] n (sq_xSeenAt_3 w h r1) K = (
 bif decide (r1 < 0) then
  K .ret [(16, ⟨z0, [(false, [.tr true (T.bool true)])]⟩)]
 else
 K .normal (sq_xSeenAt_4 w h)) := by kernel_rfl
def ce_xSeenAt_1 (r3 : Rm) : Nat × Ct := (25, ⟨z0, [(true, [.tr true (T.int IntKind.i64 r3.h.1), .tr true (T.int IntKind.i64 r3.h.2), .tr true (T.int IntKind.i64 r3.up.1), .tr true (T.int IntKind.i64 r3.up.2), .tr true (.arr (2) (r3.3.length) ((eL 2 Hd.cs r3.3).fn)), .tr true (T.int IntKind.i64 r3.4), .tr true (T.int IntKind.i64 r3.5), .tr true (T.bool r3.6), .tr true (T.int IntKind.i64 r3.7), .tr true (.arr (1) (r3.8.length) ((eL 1 Sf.cs r3.8).fn)), .tr true (.arr (1) (r3.9.length) ((eL 1 rowI r3.9).fn))])]⟩)
def ce_xSeenAt_2 (r3 : Rm) : Nat × Ct := (88, ⟨z0, [(true, [.tr true (T.int IntKind.i64 r3.h.1), .tr true (T.int IntKind.i64 r3.h.2), .tr true (T.int IntKind.i64 r3.up.1), .tr true (T.int IntKind.i64 r3.up.2), .tr true (T.hole), .tr true (T.int IntKind.i64 r3.4), .tr true (T.int IntKind.i64 r3.5), .tr true (T.bool r3.6), .tr true (T.int IntKind.i64 r3.7), .tr true (T.hole), .tr true (T.hole)])]⟩)
def sq_xSeenAt_5 (w : Wd) (h : Hd) (r3 : Rm) : St := [(8, ⟨z0, [(false, [(C.pt (Pt.ptr 9 0 [] 12 0 0))])]⟩), (ce_xSeenAt_0 w), (12, ⟨z0, [(false, [(C.pt (Pt.ptr 13 0 [] 2 0 0))])]⟩), (13, ⟨z0, [(true, [.tr true (T.int IntKind.i64 h.1), .tr true (T.int IntKind.i64 h.2)])]⟩), (24, ⟨z0, [(false, [(C.pt (Pt.ptr 25 0 [] 11 0 0))])]⟩), (ce_xSeenAt_1 r3), (ce_xSeenAt_2 r3)]
theorem sg_xSeenAt_4 (w : Wd) (h : Hd) (n : Nat) (K : Ex → St → Res) : atP prog (tabS [(i_SzWd, e_SzWd), (i_ToWd, e_ToWd), (i_toHd, e_toHd), (i_sSnAt, e_sSnAt), (i_iSnAt, e_iSnAt), (i_EqRm, e_EqRm), (i_EqWd, e_EqWd), (i_mkWd, e_mkWd), (i_mkRm, e_mkRm), (i_hdRm, e_hdRm)]) kp_xSeenAt F_xSeenAt [1, 1, 1, 1, 0] n (sq_xSeenAt_4 w h) K = (
 entK ok_ToWd ea_ToWd (f_ToWd) [(0, true,
    [C.tr false (T.int IntKind.i64 w.c.1), C.tr false (T.int IntKind.i64 w.c.2),
      C.tr false (T.int IntKind.i64 w.c.3), C.tr false (T.int IntKind.i64 w.c.4),
      C.tr false (T.int IntKind.i64 w.c.5), C.tr false (T.int IntKind.i64 w.c.6), C.tr false (eL 1 rowB w.p.1),
      C.tr false (eL 1 rowI w.p.2), C.tr false (eL 1 rowI w.p.3), C.tr false (eL 13 Nd.cs w.3),
      C.tr false (eL 5 Ws.cs w.4), C.tr false (eL 1 rowI w.5)])] fun (r2 : Wd) =>
 gd ((0 + r2.p.1.length).ble r2.p.1.length) <|
 gd ((0 + r2.p.2.length).ble r2.p.2.length) <|
 gd ((0 + r2.p.3.length).ble r2.p.3.length) <|
 gd ((0 + r2.3.length).ble r2.3.length) <|
 gd ((0 + r2.4.length).ble r2.4.length) <|
 gd ((0 + r2.5.length).ble r2.5.length) <|
 entK ok_sSnAt ea_sSnAt (f_sSnAt) [(0, true,
    [C.tr false (T.int IntKind.i64 r2.c.1), C.tr false (T.int IntKind.i64 r2.c.2),
      C.tr false (T.int IntKind.i64 r2.c.3), C.tr false (T.int IntKind.i64 r2.c.4),
      C.tr false (T.int IntKind.i64 r2.c.5), C.tr false (T.int IntKind.i64 r2.c.6),
      C.tr false (T.arr 1 r2.p.1.length (cutT 0 r2.p.1.length (eL 1 rowB r2.p.1).fn)),
      C.tr false (T.arr 1 r2.p.2.length (cutT 0 r2.p.2.length (eL 1 rowI r2.p.2).fn)),
      C.tr false (T.arr 1 r2.p.3.length (cutT 0 r2.p.3.length (eL 1 rowI r2.p.3).fn)),
      C.tr false (T.arr 13 r2.3.length (cutT 0 r2.3.length (eL 13 Nd.cs r2.3).fn)),
      C.tr false (T.arr 5 r2.4.length (cutT 0 r2.4.length (eL 5 Ws.cs r2.4).fn)),
      C.tr false (T.arr 1 r2.5.length (cutT 0 r2.5.length (eL 1 rowI r2.5).fn))]),
  (0, true, [C.tr false (T.int IntKind.i64 h.1), C.tr false (T.int IntKind.i64 h.2)])] fun (r3 : Rm) =>
 gd (r3.3.length.ble r3.3.length && true) <|
 gd (r3.8.length.ble r3.8.length && true) <|
 gd (r3.9.length.ble r3.9.length && true) <|
 K .normal (sq_xSeenAt_5 w h r3)) := by kernel_rfl
def ce_xSeenAt_3 (r4 : Wd) : Nat × Ct := (29, ⟨z0, [(true, [.tr true (T.int IntKind.i64 r4.c.1), .tr true (T.int IntKind.i64 r4.c.2), .tr true (T.int IntKind.i64 r4.c.3), .tr true (T.int IntKind.i64 r4.c.4), .tr true (T.int IntKind.i64 r4.c.5), .tr true (T.int IntKind.i64 r4.c.6), .tr true (.arr (1) (r4.p.1.length) ((eL 1 rowB r4.p.1).fn)), .tr true (.arr (1) (r4.p.2.length) ((eL 1 rowI r4.p.2).fn)), .tr true (.arr (1) (r4.p.3.length) ((eL 1 rowI r4.p.3).fn)), .tr true (.arr (13) (r4.3.length) ((eL 13 Nd.cs r4.3).fn)), .tr true (.arr (5) (r4.4.length) ((eL 5 Ws.cs r4.4).fn)), .tr true (.arr (1) (r4.5.length) ((eL 1 rowI r4.5).fn))])]⟩)
def ce_xSeenAt_4 (r4 : Wd) : Nat × Ct := (96, ⟨z0, [(true, [.tr true (T.int IntKind.i64 r4.c.1), .tr true (T.int IntKind.i64 r4.c.2), .tr true (T.int IntKind.i64 r4.c.3), .tr true (T.int IntKind.i64 r4.c.4), .tr true (T.int IntKind.i64 r4.c.5), .tr true (T.int IntKind.i64 r4.c.6), .tr true (T.hole), .tr true (T.hole), .tr true (T.hole), .tr true (T.hole), .tr true (T.hole), .tr true (T.hole)])]⟩)
def sq_xSeenAt_6 (w : Wd) (h : Hd) (r3 : Rm) (r4 : Wd) : St := [(8, ⟨z0, [(false, [(C.pt (Pt.ptr 9 0 [] 12 0 0))])]⟩), (ce_xSeenAt_0 w), (12, ⟨z0, [(false, [(C.pt (Pt.ptr 13 0 [] 2 0 0))])]⟩), (13, ⟨z0, [(true, [.tr true (T.int IntKind.i64 h.1), .tr true (T.int IntKind.i64 h.2)])]⟩), (24, ⟨z0, [(false, [(C.pt (Pt.ptr 25 0 [] 11 0 0))])]⟩), (ce_xSeenAt_1 r3), (28, ⟨z0, [(false, [(C.pt (Pt.ptr 29 0 [] 12 0 0))])]⟩), (ce_xSeenAt_3 r4), (ce_xSeenAt_2 r3), (ce_xSeenAt_4 r4)]
theorem sg_xSeenAt_5 (w : Wd) (h : Hd) (r3 : Rm) (n : Nat) (K : Ex → St → Res) : atP prog (tabS [(i_SzWd, e_SzWd), (i_ToWd, e_ToWd), (i_toHd, e_toHd), (i_sSnAt, e_sSnAt), (i_iSnAt, e_iSnAt), (i_EqRm, e_EqRm), (i_EqWd, e_EqWd), (i_mkWd, e_mkWd), (i_mkRm, e_mkRm), (i_hdRm, e_hdRm)]) kp_xSeenAt F_xSeenAt [1, 1, 1, 1, 1, 0] n (sq_xSeenAt_5 w h r3) K = (
 entK ok_ToWd ea_ToWd (f_ToWd) [(0, true,
    [C.tr false (T.int IntKind.i64 w.c.1), C.tr false (T.int IntKind.i64 w.c.2),
      C.tr false (T.int IntKind.i64 w.c.3), C.tr false (T.int IntKind.i64 w.c.4),
      C.tr false (T.int IntKind.i64 w.c.5), C.tr false (T.int IntKind.i64 w.c.6), C.tr false (eL 1 rowB w.p.1),
      C.tr false (eL 1 rowI w.p.2), C.tr false (eL 1 rowI w.p.3), C.tr false (eL 13 Nd.cs w.3),
      C.tr false (eL 5 Ws.cs w.4), C.tr false (eL 1 rowI w.5)])] fun (r4 : Wd) =>
 gd (r4.p.1.length.ble r4.p.1.length && true) <|
 gd (r4.p.2.length.ble r4.p.2.length && true) <|
 gd (r4.p.3.length.ble r4.p.3.length && true) <|
 gd (r4.3.length.ble r4.3.length && true) <|
 gd (r4.4.length.ble r4.4.length && true) <|
 gd (r4.5.length.ble r4.5.length && true) <|
 K .normal (sq_xSeenAt_6 w h r3 r4)) := by kernel_rfl
def ce_xSeenAt_5 (r5 : Rm) : Nat × Ct := (33, ⟨z0, [(true, [.tr true (T.int IntKind.i64 r5.h.1), .tr true (T.int IntKind.i64 r5.h.2), .tr true (T.int IntKind.i64 r5.up.1), .tr true (T.int IntKind.i64 r5.up.2), .tr true (.arr (2) (r5.3.length) ((eL 2 Hd.cs r5.3).fn)), .tr true (T.int IntKind.i64 r5.4), .tr true (T.int IntKind.i64 r5.5), .tr true (T.bool r5.6), .tr true (T.int IntKind.i64 r5.7), .tr true (.arr (1) (r5.8.length) ((eL 1 Sf.cs r5.8).fn)), .tr true (.arr (1) (r5.9.length) ((eL 1 rowI r5.9).fn))])]⟩)
def ce_xSeenAt_6 (r5 : Rm) : Nat × Ct := (112, ⟨z0, [(true, [.tr true (T.int IntKind.i64 r5.h.1), .tr true (T.int IntKind.i64 r5.h.2), .tr true (T.int IntKind.i64 r5.up.1), .tr true (T.int IntKind.i64 r5.up.2), .tr true (T.hole), .tr true (T.int IntKind.i64 r5.4), .tr true (T.int IntKind.i64 r5.5), .tr true (T.bool r5.6), .tr true (T.int IntKind.i64 r5.7), .tr true (T.hole), .tr true (T.hole)])]⟩)
def sq_xSeenAt_7 (w : Wd) (h : Hd) (r3 : Rm) (r4 : Wd) (r5 : Rm) : St := [(8, ⟨z0, [(false, [(C.pt (Pt.ptr 9 0 [] 12 0 0))])]⟩), (ce_xSeenAt_0 w), (12, ⟨z0, [(false, [(C.pt (Pt.ptr 13 0 [] 2 0 0))])]⟩), (13, ⟨z0, [(true, [.tr true (T.int IntKind.i64 h.1), .tr true (T.int IntKind.i64 h.2)])]⟩), (24, ⟨z0, [(false, [(C.pt (Pt.ptr 25 0 [] 11 0 0))])]⟩), (ce_xSeenAt_1 r3), (28, ⟨z0, [(false, [(C.pt (Pt.ptr 29 0 [] 12 0 0))])]⟩), (ce_xSeenAt_3 r4), (32, ⟨z0, [(false, [(C.pt (Pt.ptr 33 0 [] 11 0 0))])]⟩), (ce_xSeenAt_5 r5), (ce_xSeenAt_2 r3), (ce_xSeenAt_4 r4), (ce_xSeenAt_6 r5)]
theorem sg_xSeenAt_6 (w : Wd) (h : Hd) (r3 : Rm) (r4 : Wd) (n : Nat) (K : Ex → St → Res) : atP prog (tabS [(i_SzWd, e_SzWd), (i_ToWd, e_ToWd), (i_toHd, e_toHd), (i_sSnAt, e_sSnAt), (i_iSnAt, e_iSnAt), (i_EqRm, e_EqRm), (i_EqWd, e_EqWd), (i_mkWd, e_mkWd), (i_mkRm, e_mkRm), (i_hdRm, e_hdRm)]) kp_xSeenAt F_xSeenAt [1, 1, 1, 1, 1, 1, 0] n (sq_xSeenAt_6 w h r3 r4) K = (
 gd ((0 + r4.p.1.length).ble r4.p.1.length) <|
 gd ((0 + r4.p.2.length).ble r4.p.2.length) <|
 gd ((0 + r4.p.3.length).ble r4.p.3.length) <|
 gd ((0 + r4.3.length).ble r4.3.length) <|
 gd ((0 + r4.4.length).ble r4.4.length) <|
 gd ((0 + r4.5.length).ble r4.5.length) <|
 entK ok_iSnAt ea_iSnAt (f_iSnAt) [(0, true,
    [C.tr false (T.int IntKind.i64 r4.c.1), C.tr false (T.int IntKind.i64 r4.c.2),
      C.tr false (T.int IntKind.i64 r4.c.3), C.tr false (T.int IntKind.i64 r4.c.4),
      C.tr false (T.int IntKind.i64 r4.c.5), C.tr false (T.int IntKind.i64 r4.c.6),
      C.tr false (T.arr 1 r4.p.1.length (cutT 0 r4.p.1.length (eL 1 rowB r4.p.1).fn)),
      C.tr false (T.arr 1 r4.p.2.length (cutT 0 r4.p.2.length (eL 1 rowI r4.p.2).fn)),
      C.tr false (T.arr 1 r4.p.3.length (cutT 0 r4.p.3.length (eL 1 rowI r4.p.3).fn)),
      C.tr false (T.arr 13 r4.3.length (cutT 0 r4.3.length (eL 13 Nd.cs r4.3).fn)),
      C.tr false (T.arr 5 r4.4.length (cutT 0 r4.4.length (eL 5 Ws.cs r4.4).fn)),
      C.tr false (T.arr 1 r4.5.length (cutT 0 r4.5.length (eL 1 rowI r4.5).fn))]),
  (0, true, [C.tr false (T.int IntKind.i64 h.1), C.tr false (T.int IntKind.i64 h.2)])] fun (r5 : Rm) =>
 gd (r5.3.length.ble r5.3.length && true) <|
 gd (r5.8.length.ble r5.8.length && true) <|
 gd (r5.9.length.ble r5.9.length && true) <|
 K .normal (sq_xSeenAt_7 w h r3 r4 r5)) := by kernel_rfl
def sq_xSeenAt_8 (w : Wd) (h : Hd) (r3 : Rm) (r4 : Wd) (r5 : Rm) : St := [(8, ⟨z0, [(false, [(C.pt (Pt.ptr 9 0 [] 12 0 0))])]⟩), (ce_xSeenAt_0 w), (12, ⟨z0, [(false, [(C.pt (Pt.ptr 13 0 [] 2 0 0))])]⟩), (13, ⟨z0, [(true, [.tr true (T.int IntKind.i64 h.1), .tr true (T.int IntKind.i64 h.2)])]⟩), (24, ⟨z0, [(false, [(C.pt (Pt.ptr 25 0 [] 11 0 0))])]⟩), (ce_xSeenAt_1 r3), (28, ⟨z0, [(false, [(C.pt (Pt.ptr 29 0 [] 12 0 0))])]⟩), (ce_xSeenAt_3 r4), (32, ⟨z0, [(false, [(C.pt (Pt.ptr 33 0 [] 11 0 0))])]⟩), (ce_xSeenAt_5 r5), (ce_xSeenAt_2 r3), (ce_xSeenAt_4 r4), (ce_xSeenAt_6 r5), (128, ⟨z0, []⟩)]
theorem sg_xSeenAt_7 (w : Wd) (h : Hd) (r3 : Rm) (r4 : Wd) (r5 : Rm) (n : Nat) (K : Ex → St → Res) : atP prog (tabS [(i_SzWd, e_SzWd), (i_ToWd, e_ToWd), (i_toHd, e_toHd), (i_sSnAt, e_sSnAt), (i_iSnAt, e_iSnAt), (i_EqRm, e_EqRm), (i_EqWd, e_EqWd), (i_mkWd, e_mkWd), (i_mkRm, e_mkRm), (i_hdRm, e_hdRm)]) kp_xSeenAt F_xSeenAt [1, 1, 1, 1, 1, 1, 1, 0] n (sq_xSeenAt_7 w h r3 r4 r5) K = (
 gd ((0 + r5.3.length).ble r5.3.length) <|
 gd ((0 + r5.8.length).ble r5.8.length) <|
 gd ((0 + r5.9.length).ble r5.9.length) <|
 gd ((0 + r3.3.length).ble r3.3.length) <|
 gd ((0 + r3.8.length).ble r3.8.length) <|
 gd ((0 + r3.9.length).ble r3.9.length) <|
 entK ok_EqRm ea_EqRm (f_EqRm) [(0, true,
    [C.tr false (T.int IntKind.i64 r5.h.1), C.tr false (T.int IntKind.i64 r5.h.2),
      C.tr false (T.int IntKind.i64 r5.up.1), C.tr false (T.int IntKind.i64 r5.up.2),
      C.tr false (T.arr 2 r5.3.length (cutT 0 r5.3.length (eL 2 Hd.cs r5.3).fn)),
      C.tr false (T.int IntKind.i64 r5.4), C.tr false (T.int IntKind.i64 r5.5),
      C.tr false (T.bool r5.6), C.tr false (T.int IntKind.i64 r5.7),
      C.tr false (T.arr 1 r5.8.length (cutT 0 r5.8.length (eL 1 Sf.cs r5.8).fn)),
      C.tr false (T.arr 1 r5.9.length (cutT 0 r5.9.length (eL 1 rowI r5.9).fn))]),
  (0, true,
    [C.tr false (T.int IntKind.i64 r3.h.1), C.tr false (T.int IntKind.i64 r3.h.2),
      C.tr false (T.int IntKind.i64 r3.up.1), C.tr false (T.int IntKind.i64 r3.up.2),
      C.tr false (T.arr 2 r3.3.length (cutT 0 r3.3.length (eL 2 Hd.cs r3.3).fn)),
      C.tr false (T.int IntKind.i64 r3.4), C.tr false (T.int IntKind.i64 r3.5),
      C.tr false (T.bool r3.6), C.tr false (T.int IntKind.i64 r3.7),
      C.tr false (T.arr 1 r3.8.length (cutT 0 r3.8.length (eL 1 Sf.cs r3.8).fn)),
      C.tr false (T.arr 1 r3.9.length (cutT 0 r3.9.length (eL 1 rowI r3.9).fn))])] fun (r6 : Bool) =>
 bif !r6 then
  K .ret [(16, ⟨z0, [(false, [.tr true (T.bool false)])]⟩)]
 else
 K .normal (sq_xSeenAt_8 w h r3 r4 r5)) := by kernel_rfl
def sq_xSeenAt_9 (w : Wd) (h : Hd) (r3 : Rm) (r4 : Wd) (r5 : Rm) : St := [(8, ⟨z0, [(false, [(C.pt (Pt.ptr 9 0 [] 12 0 0))])]⟩), (ce_xSeenAt_0 w), (12, ⟨z0, [(false, [(C.pt (Pt.ptr 13 0 [] 2 0 0))])]⟩), (13, ⟨z0, [(true, [.tr true (T.int IntKind.i64 h.1), .tr true (T.int IntKind.i64 h.2)])]⟩), (24, ⟨z0, [(false, [(C.pt (Pt.ptr 25 0 [] 11 0 0))])]⟩), (ce_xSeenAt_1 r3), (28, ⟨z0, [(false, [(C.pt (Pt.ptr 29 0 [] 12 0 0))])]⟩), (ce_xSeenAt_3 r4), (32, ⟨z0, [(false, [(C.pt (Pt.ptr 33 0 [] 11 0 0))])]⟩), (ce_xSeenAt_5 r5), (ce_xSeenAt_2 r3), (ce_xSeenAt_4 r4), (ce_xSeenAt_6 r5), (148, ⟨z0, []⟩)]
theorem sg_xSeenAt_8 (w : Wd) (h : Hd) (r3 : Rm) (r4 : Wd) (r5 : Rm) (n : Nat) (K : Ex → St → Res) : atP prog (tabS [(i_SzWd, e_SzWd), (i_ToWd, e_ToWd), (i_toHd, e_toHd), (i_sSnAt, e_sSnAt), (i_iSnAt, e_iSnAt), (i_EqRm, e_EqRm), (i_EqWd, e_EqWd), (i_mkWd, e_mkWd), (i_mkRm, e_mkRm), (i_hdRm, e_hdRm)]) kp_xSeenAt F_xSeenAt [1, 1, 1, 1, 1, 1, 1, 1, 0] n (sq_xSeenAt_8 w h r3 r4 r5) K = (
 entK ok_ToWd ea_ToWd (f_ToWd) [(0, true,
    [C.tr false (T.int IntKind.i64 w.c.1), C.tr false (T.int IntKind.i64 w.c.2),
      C.tr false (T.int IntKind.i64 w.c.3), C.tr false (T.int IntKind.i64 w.c.4),
      C.tr false (T.int IntKind.i64 w.c.5), C.tr false (T.int IntKind.i64 w.c.6), C.tr false (eL 1 rowB w.p.1),
      C.tr false (eL 1 rowI w.p.2), C.tr false (eL 1 rowI w.p.3), C.tr false (eL 13 Nd.cs w.3),
      C.tr false (eL 5 Ws.cs w.4), C.tr false (eL 1 rowI w.5)])] fun (r7 : Wd) =>
 gd ((0 + r4.p.1.length).ble r4.p.1.length) <|
 gd ((0 + r4.p.2.length).ble r4.p.2.length) <|
 gd ((0 + r4.p.3.length).ble r4.p.3.length) <|
 gd ((0 + r4.3.length).ble r4.3.length) <|
 gd ((0 + r4.4.length).ble r4.4.length) <|
 gd ((0 + r4.5.length).ble r4.5.length) <|
 gd ((0 + r7.p.1.length).ble r7.p.1.length) <|
 gd ((0 + r7.p.2.length).ble r7.p.2.length) <|
 gd ((0 + r7.p.3.length).ble r7.p.3.length) <|
 gd ((0 + r7.3.length).ble r7.3.length) <|
 gd ((0 + r7.4.length).ble r7.4.length) <|
 gd ((0 + r7.5.length).ble r7.5.length) <|
 entK ok_EqWd ea_EqWd (f_EqWd) [(0, true,
    [C.tr false (T.int IntKind.i64 r4.c.1), C.tr false (T.int IntKind.i64 r4.c.2),
      C.tr false (T.int IntKind.i64 r4.c.3), C.tr false (T.int IntKind.i64 r4.c.4),
      C.tr false (T.int IntKind.i64 r4.c.5), C.tr false (T.int IntKind.i64 r4.c.6),
      C.tr false (T.arr 1 r4.p.1.length (cutT 0 r4.p.1.length (eL 1 rowB r4.p.1).fn)),
      C.tr false (T.arr 1 r4.p.2.length (cutT 0 r4.p.2.length (eL 1 rowI r4.p.2).fn)),
      C.tr false (T.arr 1 r4.p.3.length (cutT 0 r4.p.3.length (eL 1 rowI r4.p.3).fn)),
      C.tr false (T.arr 13 r4.3.length (cutT 0 r4.3.length (eL 13 Nd.cs r4.3).fn)),
      C.tr false (T.arr 5 r4.4.length (cutT 0 r4.4.length (eL 5 Ws.cs r4.4).fn)),
      C.tr false (T.arr 1 r4.5.length (cutT 0 r4.5.length (eL 1 rowI r4.5).fn))]),
  (0, true,
    [C.tr false (T.int IntKind.i64 r7.c.1), C.tr false (T.int IntKind.i64 r7.c.2),
      C.tr false (T.int IntKind.i64 r7.c.3), C.tr false (T.int IntKind.i64 r7.c.4),
      C.tr false (T.int IntKind.i64 r7.c.5), C.tr false (T.int IntKind.i64 r7.c.6),
      C.tr false (T.arr 1 r7.p.1.length (cutT 0 r7.p.1.length (eL 1 rowB r7.p.1).fn)),
      C.tr false (T.arr 1 r7.p.2.length (cutT 0 r7.p.2.length (eL 1 rowI r7.p.2).fn)),
      C.tr false (T.arr 1 r7.p.3.length (cutT 0 r7.p.3.length (eL 1 rowI r7.p.3).fn)),
      C.tr false (T.arr 13 r7.3.length (cutT 0 r7.3.length (eL 13 Nd.cs r7.3).fn)),
      C.tr false (T.arr 5 r7.4.length (cutT 0 r7.4.length (eL 5 Ws.cs r7.4).fn)),
      C.tr false (T.arr 1 r7.5.length (cutT 0 r7.5.length (eL 1 rowI r7.5).fn))])] fun (r8 : Bool) =>
 bif !r8 then
  K .ret [(16, ⟨z0, [(false, [.tr true (T.bool false)])]⟩)]
 else
 K .normal (sq_xSeenAt_9 w h r3 r4 r5)) := by kernel_rfl
def sq_xSeenAt_10 (w : Wd) (h : Hd) (r3 : Rm) (r4 : Wd) (r5 : Rm) : St := [(8, ⟨z0, [(false, [(C.pt (Pt.ptr 9 0 [] 12 0 0))])]⟩), (ce_xSeenAt_0 w), (12, ⟨z0, [(false, [(C.pt (Pt.ptr 13 0 [] 2 0 0))])]⟩), (13, ⟨z0, [(true, [.tr true (T.int IntKind.i64 h.1), .tr true (T.int IntKind.i64 h.2)])]⟩), (24, ⟨z0, [(false, [(C.pt (Pt.ptr 25 0 [] 11 0 0))])]⟩), (ce_xSeenAt_1 r3), (28, ⟨z0, [(false, [(C.pt (Pt.ptr 29 0 [] 12 0 0))])]⟩), (ce_xSeenAt_3 r4), (32, ⟨z0, [(false, [(C.pt (Pt.ptr 33 0 [] 11 0 0))])]⟩), (ce_xSeenAt_5 r5), (36, ⟨z0, [(false, [.tr true (T.int IntKind.i64 1)])]⟩), (ce_xSeenAt_2 r3), (ce_xSeenAt_4 r4), (ce_xSeenAt_6 r5)]
theorem sg_xSeenAt_9 (w : Wd) (h : Hd) (r3 : Rm) (r4 : Wd) (r5 : Rm) (n : Nat) (K : Ex → St → Res) : atP prog (tabS [(i_SzWd, e_SzWd), (i_ToWd, e_ToWd), (i_toHd, e_toHd), (i_sSnAt, e_sSnAt), (i_iSnAt, e_iSnAt), (i_EqRm, e_EqRm), (i_EqWd, e_EqWd), (i_mkWd, e_mkWd), (i_mkRm, e_mkRm), (i_hdRm, e_hdRm)]) kp_xSeenAt F_xSeenAt [1, 1, 1, 1, 1, 1, 1, 1, 1, 0] n (sq_xSeenAt_9 w h r3 r4 r5) K = (
 K .normal (sq_xSeenAt_10 w h r3 r4 r5)) := by kernel_rfl
def sq_xSeenAt_11 (w : Wd) (h : Hd) (r3 : Rm) (r5 : Rm) (r14 : List Int × Int) : St := [(8, ⟨z0, [(false, [(C.pt (Pt.ptr 9 0 [] 12 0 0))])]⟩), (ce_xSeenAt_0 w), (12, ⟨z0, [(false, [(C.pt (Pt.ptr 13 0 [] 2 0 0))])]⟩), (13, ⟨z0, [(true, [.tr true (T.int IntKind.i64 h.1), .tr true (T.int IntKind.i64 h.2)])]⟩), (24, ⟨z0, [(false, [(C.pt (Pt.ptr 25 0 [] 11 0 0))])]⟩), (ce_xSeenAt_1 r3), (32, ⟨z0, [(false, [(C.pt (Pt.ptr 33 0 [] 11 0 0))])]⟩), (ce_xSeenAt_5 r5), (36, ⟨z0, [(false, [.tr true (T.int IntKind.i64 (f_ctLI r14))])]⟩), (ce_xSeenAt_2 r3), (ce_xSeenAt_6 r5)]
theorem sg_xSeenAt_10 (w : Wd) (h : Hd) (r3 : Rm) (r4 : Wd) (r5 : Rm) (n : Nat) (K : Ex → St → Res) : atP prog (tabS [(i_SzWd, e_SzWd), (i_ToWd, e_ToWd), (i_toHd, e_toHd), (i_sSnAt, e_sSnAt), (i_iSnAt, e_iSnAt), (i_EqRm, e_EqRm), (i_EqWd, e_EqWd), (i_mkWd, e_mkWd), (i_mkRm, e_mkRm), (i_hdRm, e_hdRm)]) kp_xSeenAt F_xSeenAt [1, 1, 1, 1, 1, 1, 1, 1, 1, 1, 0] n (sq_xSeenAt_10 w h r3 r4 r5) K = (
 gd (r4.p.1.length.beq r4.p.1.length && true) <|
 gd (r4.p.2.length.beq r4.p.2.length && true) <|
 gd (r4.p.3.length.beq r4.p.3.length && true) <|
 gd (r4.3.length.beq r4.3.length && true) <|
 gd (r4.4.length.beq r4.4.length && true) <|
 gd (r4.5.length.beq r4.5.length && true) <|
 gd (r4.p.1.length.beq r4.p.1.length && true) <|
 gd (r4.p.2.length.beq r4.p.2.length && true) <|
 gd (r4.p.3.length.beq r4.p.3.length && true) <|
 gd (r4.p.1.length.beq r4.p.1.length && true) <|
 entK okh_LB eam_LB (fun x => x) [(1, false, [C.tr true (T.arr 1 r4.p.1.length (eL 1 rowB r4.p.1).fn)]),
  (0, false, [C.tr false (T.int IntKind.i64 1)])] fun (r9 : List UInt8 × Int) =>
 gd (r4.p.1.length.beq (f_mkLB r9).length && true) <|
 gd (r4.p.2.length.beq r4.p.2.length && true) <|
 entK okh_LI eam_LI (fun x => x) [(1, false, [C.tr true (T.arr 1 r4.p.2.length (eL 1 rowI r4.p.2).fn)]),
  (0, false, [C.tr false (T.int IntKind.i64 (f_ctLB r9))])] fun (r10 : List Int × Int) =>
 gd (r4.p.2.length.beq (f_mkLI r10).length && true) <|
 gd (r4.p.3.length.beq r4.p.3.length && true) <|
 entK okh_LI eam_LI (fun x => x) [(1, false, [C.tr true (T.arr 1 r4.p.3.length (eL 1 rowI r4.p.3).fn)]),
  (0, false, [C.tr false (T.int IntKind.i64 (f_ctLI r10))])] fun (r11 : List Int × Int) =>
 gd (r4.p.3.length.beq (f_mkLI r11).length && true) <|
 gd (r4.p.1.length.beq (f_mkLB r9).length && true) <|
 gd (r4.p.2.length.beq (f_mkLI r10).length && true) <|
 gd (r4.p.3.length.beq (f_mkLI r11).length && true) <|
 gd (r4.3.length.beq r4.3.length && true) <|
 entK okh_NdS eam_NdS (fun x => x) [(1, false, [C.tr true (T.arr 13 r4.3.length (eL 13 Nd.cs r4.3).fn)]),
  (0, false, [C.tr false (T.int IntKind.i64 (f_ctLI r11))])] fun (r12 : List Nd × Int) =>
 gd (r4.3.length.beq (f_mkNdS r12).length && true) <|
 gd (r4.4.length.beq r4.4.length && true) <|
 entK okh_WsS eam_WsS (fun x => x) [(1, false, [C.tr true (T.arr 5 r4.4.length (eL 5 Ws.cs r4.4).fn)]),
  (0, false, [C.tr false (T.int IntKind.i64 (f_ctNdS r12))])] fun (r13 : List Ws × Int) =>
 gd (r4.4.length.beq (f_mkWsS r13).length && true) <|
 gd (r4.5.length.beq r4.5.length && true) <|
 entK okh_LI eam_LI (fun x => x) [(1, false, [C.tr true (T.arr 1 r4.5.length (eL 1 rowI r4.5).fn)]),
  (0, false, [C.tr false (T.int IntKind.i64 (f_ctWsS r13))])] fun (r14 : List Int × Int) =>
 gd (r4.5.length.beq (f_mkLI r14).length && true) <|
 gd (r4.p.1.length.beq (f_mkLB r9).length && true) <|
 gd (r4.p.2.length.beq (f_mkLI r10).length && true) <|
 gd (r4.p.3.length.beq (f_mkLI r11).length && true) <|
 gd (r4.3.length.beq (f_mkNdS r12).length && true) <|
 gd (r4.4.length.beq (f_mkWsS r13).length && true) <|
 gd (r4.5.length.beq (f_mkLI r14).length && true) <|
 K .normal (sq_xSeenAt_11 w h r3 r5 r14)) := by kernel_rfl
def sq_xSeenAt_12 (w : Wd) (h : Hd) (r3 : Rm) (r5 : Rm) : St := [(8, ⟨z0, [(false, [(C.pt (Pt.ptr 9 0 [] 12 0 0))])]⟩), (ce_xSeenAt_0 w), (12, ⟨z0, [(false, [(C.pt (Pt.ptr 13 0 [] 2 0 0))])]⟩), (13, ⟨z0, [(true, [.tr true (T.int IntKind.i64 h.1), .tr true (T.int IntKind.i64 h.2)])]⟩), (24, ⟨z0, [(false, [(C.pt (Pt.ptr 25 0 [] 11 0 0))])]⟩), (ce_xSeenAt_1 r3), (32, ⟨z0, [(false, [(C.pt (Pt.ptr 33 0 [] 11 0 0))])]⟩), (ce_xSeenAt_5 r5), (ce_xSeenAt_2 r3), (ce_xSeenAt_6 r5), (192, ⟨z0, []⟩)]
theorem sg_xSeenAt_11 (w : Wd) (h : Hd) (r3 : Rm) (r5 : Rm) (r14 : List Int × Int) (n : Nat) (K : Ex → St → Res) : atP prog (tabS [(i_SzWd, e_SzWd), (i_ToWd, e_ToWd), (i_toHd, e_toHd), (i_sSnAt, e_sSnAt), (i_iSnAt, e_iSnAt), (i_EqRm, e_EqRm), (i_EqWd, e_EqWd), (i_mkWd, e_mkWd), (i_mkRm, e_mkRm), (i_hdRm, e_hdRm)]) kp_xSeenAt F_xSeenAt [1, 1, 1, 1, 1, 1, 1, 1, 1, 1, 1, 0] n (sq_xSeenAt_11 w h r3 r5 r14) K = (
 bif decide (f_ctLI r14 < 0) then
  K .ret [(16, ⟨z0, [(false, [.tr true (T.bool false)])]⟩)]
 else
 gd ((0 + r5.3.length).ble r5.3.length) <|
 gd ((0 + r5.8.length).ble r5.8.length) <|
 gd ((0 + r5.9.length).ble r5.9.length) <|
 gd ((0 + r3.3.length).ble r3.3.length) <|
 gd ((0 + r3.8.length).ble r3.8.length) <|
 gd ((0 + r3.9.length).ble r3.9.length) <|
 entK ok_EqRm ea_EqRm (f_EqRm) [(0, true,
    [C.tr false (T.int IntKind.i64 r5.h.1), C.tr false (T.int IntKind.i64 r5.h.2),
      C.tr false (T.int IntKind.i64 r5.up.1), C.tr false (T.int IntKind.i64 r5.up.2),
      C.tr false (T.arr 2 r5.3.length (cutT 0 r5.3.length (eL 2 Hd.cs r5.3).fn)),
      C.tr false (T.int IntKind.i64 r5.4), C.tr false (T.int IntKind.i64 r5.5),
      C.tr false (T.bool r5.6), C.tr false (T.int IntKind.i64 r5.7),
      C.tr false (T.arr 1 r5.8.length (cutT 0 r5.8.length (eL 1 Sf.cs r5.8).fn)),
      C.tr false (T.arr 1 r5.9.length (cutT 0 r5.9.length (eL 1 rowI r5.9).fn))]),
  (0, true,
    [C.tr false (T.int IntKind.i64 r3.h.1), C.tr false (T.int IntKind.i64 r3.h.2),
      C.tr false (T.int IntKind.i64 r3.up.1), C.tr false (T.int IntKind.i64 r3.up.2),
      C.tr false (T.arr 2 r3.3.length (cutT 0 r3.3.length (eL 2 Hd.cs r3.3).fn)),
      C.tr false (T.int IntKind.i64 r3.4), C.tr false (T.int IntKind.i64 r3.5),
      C.tr false (T.bool r3.6), C.tr false (T.int IntKind.i64 r3.7),
      C.tr false (T.arr 1 r3.8.length (cutT 0 r3.8.length (eL 1 Sf.cs r3.8).fn)),
      C.tr false (T.arr 1 r3.9.length (cutT 0 r3.9.length (eL 1 rowI r3.9).fn))])] fun (r15 : Bool) =>
 bif !r15 then
  K .ret [(16, ⟨z0, [(false, [.tr true (T.bool false)])]⟩)]
 else
 K .normal (sq_xSeenAt_12 w h r3 r5)) := by kernel_rfl
def sq_xSeenAt_13 (w : Wd) (h : Hd) (r3 : Rm) (r5 : Rm) : St := [(8, ⟨z0, [(false, [(C.pt (Pt.ptr 9 0 [] 12 0 0))])]⟩), (ce_xSeenAt_0 w), (12, ⟨z0, [(false, [(C.pt (Pt.ptr 13 0 [] 2 0 0))])]⟩), (13, ⟨z0, [(true, [.tr true (T.int IntKind.i64 h.1), .tr true (T.int IntKind.i64 h.2)])]⟩), (24, ⟨z0, [(false, [(C.pt (Pt.ptr 25 0 [] 11 0 0))])]⟩), (ce_xSeenAt_1 r3), (32, ⟨z0, [(false, [(C.pt (Pt.ptr 33 0 [] 11 0 0))])]⟩), (ce_xSeenAt_5 r5), (40, ⟨z0, [(false, [.tr true (T.int IntKind.i64 1)])]⟩), (ce_xSeenAt_2 r3), (ce_xSeenAt_6 r5)]
theorem sg_xSeenAt_12 (w : Wd) (h : Hd) (r3 : Rm) (r5 : Rm) (n : Nat) (K : Ex → St → Res) : atP prog (tabS [(i_SzWd, e_SzWd), (i_ToWd, e_ToWd), (i_toHd, e_toHd), (i_sSnAt, e_sSnAt), (i_iSnAt, e_iSnAt), (i_EqRm, e_EqRm), (i_EqWd, e_EqWd), (i_mkWd, e_mkWd), (i_mkRm, e_mkRm), (i_hdRm, e_hdRm)]) kp_xSeenAt F_xSeenAt [1, 1, 1, 1, 1, 1, 1, 1, 1, 1, 1, 1, 0] n (sq_xSeenAt_12 w h r3 r5) K = (
 K .normal (sq_xSeenAt_13 w h r3 r5)) := by kernel_rfl
def ce_xSeenAt_7 (r5 : Rm) (r16 : List Hd × Int) (r17 : List Sf × Int) (r18 : List Int × Int) : Nat × Ct := (33, ⟨z0, [(true, [.tr true (T.int IntKind.i64 r5.h.1), .tr true (T.int IntKind.i64 r5.h.2), .tr true (T.int IntKind.i64 r5.up.1), .tr true (T.int IntKind.i64 r5.up.2), .tr true (.arr (2) ((f_mkHdS r16).length) (atL Hd.cs (f_mkHdS r16))), .tr true (T.int IntKind.i64 r5.4), .tr true (T.int IntKind.i64 r5.5), .tr true (T.bool r5.6), .tr true (T.int IntKind.i64 r5.7), .tr true (.arr (1) ((f_mkSfS r17).length) (atL Sf.cs (f_mkSfS r17))), .tr true (.arr (1) ((f_mkLI r18).length) (atL rowI (f_mkLI r18)))])]⟩)
def sq_xSeenAt_14 (w : Wd) (h : Hd) (r3 : Rm) (r5 : Rm) (r16 : List Hd × Int) (r17 : List Sf × Int) (r18 : List Int × Int) : St := [(8, ⟨z0, [(false, [(C.pt (Pt.ptr 9 0 [] 12 0 0))])]⟩), (ce_xSeenAt_0 w), (12, ⟨z0, [(false, [(C.pt (Pt.ptr 13 0 [] 2 0 0))])]⟩), (13, ⟨z0, [(true, [.tr true (T.int IntKind.i64 h.1), .tr true (T.int IntKind.i64 h.2)])]⟩), (24, ⟨z0, [(false, [(C.pt (Pt.ptr 25 0 [] 11 0 0))])]⟩), (ce_xSeenAt_1 r3), (32, ⟨z0, [(false, [(C.pt (Pt.ptr 33 0 [] 11 0 0))])]⟩), (ce_xSeenAt_7 r5 r16 r17 r18), (40, ⟨z0, [(false, [.tr true (T.int IntKind.i64 (f_ctLI r18))])]⟩), (ce_xSeenAt_2 r3), (ce_xSeenAt_6 r5)]
theorem sg_xSeenAt_13 (w : Wd) (h : Hd) (r3 : Rm) (r5 : Rm) (n : Nat) (K : Ex → St → Res) : atP prog (tabS [(i_SzWd, e_SzWd), (i_ToWd, e_ToWd), (i_toHd, e_toHd), (i_sSnAt, e_sSnAt), (i_iSnAt, e_iSnAt), (i_EqRm, e_EqRm), (i_EqWd, e_EqWd), (i_mkWd, e_mkWd), (i_mkRm, e_mkRm), (i_hdRm, e_hdRm)]) kp_xSeenAt F_xSeenAt [1, 1, 1, 1, 1, 1, 1, 1, 1, 1, 1, 1, 1, 0] n (sq_xSeenAt_13 w h r3 r5) K = (
 gd (r5.3.length.beq r5.3.length && true) <|
 gd (r5.8.length.beq r5.8.length && true) <|
 gd (r5.9.length.beq r5.9.length && true) <|
 gd (r5.3.length.beq r5.3.length && true) <|
 entK okh_HdS eam_HdS (fun x => x) [(1, false, [C.tr true (T.arr 2 r5.3.length (eL 2 Hd.cs r5.3).fn)]),
  (0, false, [C.tr false (T.int IntKind.i64 1)])] fun (r16 : List Hd × Int) =>
 gd (r5.3.length.beq (f_mkHdS r16).length && true) <|
 gd (r5.8.length.beq r5.8.length && true) <|
 entK okh_SfS eam_SfS (fun x => x) [(1, false, [C.tr true (T.arr 1 r5.8.length (eL 1 Sf.cs r5.8).fn)]),
  (0, false, [C.tr false (T.int IntKind.i64 (f_ctHdS r16))])] fun (r17 : List Sf × Int) =>
 gd (r5.8.length.beq (f_mkSfS r17).length && true) <|
 gd (r5.9.length.beq r5.9.length && true) <|
 entK okh_LI eam_LI (fun x => x) [(1, false, [C.tr true (T.arr 1 r5.9.length (eL 1 rowI r5.9).fn)]),
  (0, false, [C.tr false (T.int IntKind.i64 (f_ctSfS r17))])] fun (r18 : List Int × Int) =>
 gd (r5.9.length.beq (f_mkLI r18).length && true) <|
 gd (r5.3.length.beq (f_mkHdS r16).length && true) <|
 gd (r5.8.length.beq (f_mkSfS r17).length && true) <|
 gd (r5.9.length.beq (f_mkLI r18).length && true) <|
 K .normal (sq_xSeenAt_14 w h r3 r5 r16 r17 r18)) := by kernel_rfl
def sq_xSeenAt_15 (w : Wd) (h : Hd) (r3 : Rm) (r5 : Rm) (r16 : List Hd × Int) (r17 : List Sf × Int) (r18 : List Int × Int) : St := [(8, ⟨z0, [(false, [(C.pt (Pt.ptr 9 0 [] 12 0 0))])]⟩), (ce_xSeenAt_0 w), (12, ⟨z0, [(false, [(C.pt (Pt.ptr 13 0 [] 2 0 0))])]⟩), (13, ⟨z0, [(true, [.tr true (T.int IntKind.i64 h.1), .tr true (T.int IntKind.i64 h.2)])]⟩), (24, ⟨z0, [(false, [(C.pt (Pt.ptr 25 0 [] 11 0 0))])]⟩), (ce_xSeenAt_1 r3), (32, ⟨z0, [(false, [(C.pt (Pt.ptr 33 0 [] 11 0 0))])]⟩), (ce_xSeenAt_7 r5 r16 r17 r18), (40, ⟨z0, [(false, [.tr true (T.int IntKind.i64 (f_ctLI r18))])]⟩), (44, ⟨z0, [(false, [.tr true (T.int IntKind.i64 1)])]⟩), (ce_xSeenAt_2 r3), (ce_xSeenAt_6 r5)]
theorem sg_xSeenAt_14 (w : Wd) (h : Hd) (r3 : Rm) (r5 : Rm) (r16 : List Hd × Int) (r17 : List Sf × Int) (r18 : List Int × Int) (n : Nat) (K : Ex → St → Res) : atP prog (tabS [(i_SzWd, e_SzWd), (i_ToWd, e_ToWd), (i_toHd, e_toHd), (i_sSnAt, e_sSnAt), (i_iSnAt, e_iSnAt), (i_EqRm, e_EqRm), (i_EqWd, e_EqWd), (i_mkWd, e_mkWd), (i_mkRm, e_mkRm), (i_hdRm, e_hdRm)]) kp_xSeenAt F_xSeenAt [1, 1, 1, 1, 1, 1, 1, 1, 1, 1, 1, 1, 1, 1, 0] n (sq_xSeenAt_14 w h r3 r5 r16 r17 r18) K = (
 K .normal (sq_xSeenAt_15 w h r3 r5 r16 r17 r18)) := by kernel_rfl
def sq_xSeenAt_16 (w : Wd) (h : Hd) (r3 : Rm) (r5 : Rm) (r16 : List Hd × Int) (r17 : List Sf × Int) (r18 : List Int × Int) (r19 : Int) : St := [(8, ⟨z0, [(false, [(C.pt (Pt.ptr 9 0 [] 12 0 0))])]⟩), (ce_xSeenAt_0 w), (12, ⟨z0, [(false, [(C.pt (Pt.ptr 13 0 [] 2 0 0))])]⟩), (13, ⟨z0, [(true, [.tr true (T.int IntKind.i64 h.1), .tr true (T.int IntKind.i64 h.2)])]⟩), (24, ⟨z0, [(false, [(C.pt (Pt.ptr 25 0 [] 11 0 0))])]⟩), (ce_xSeenAt_1 r3), (32, ⟨z0, [(false, [(C.pt (Pt.ptr 33 0 [] 11 0 0))])]⟩), (ce_xSeenAt_7 r5 r16 r17 r18), (40, ⟨z0, [(false, [.tr true (T.int IntKind.i64 (f_ctLI r18))])]⟩), (44, ⟨z0, [(false, [.tr true (T.int IntKind.i64 r19)])]⟩), (ce_xSeenAt_2 r3), (ce_xSeenAt_6 r5)]
theorem sg_xSeenAt_15 (w : Wd) (h : Hd) (r3 : Rm) (r5 : Rm) (r16 : List Hd × Int) (r17 : List Sf × Int) (r18 : List Int × Int) (n : Nat) (K : Ex → St → Res) : atP prog (tabS [(i_SzWd, e_SzWd), (i_ToWd, e_ToWd), (i_toHd, e_toHd), (i_sSnAt, e_sSnAt), (i_iSnAt, e_iSnAt), (i_EqRm, e_EqRm), (i_EqWd, e_EqWd), (i_mkWd, e_mkWd), (i_mkRm, e_mkRm), (i_hdRm, e_hdRm)]) kp_xSeenAt F_xSeenAt [1, 1, 1, 1, 1, 1, 1, 1, 1, 1, 1, 1, 1, 1, 1, 0] n (sq_xSeenAt_15 w h r3 r5 r16 r17 r18) K = (
 gd ((0 + (f_mkHdS r16).length).ble (f_mkHdS r16).length) <|
 gd ((0 + (f_mkSfS r17).length).ble (f_mkSfS r17).length) <|
 gd ((0 + (f_mkLI r18).length).ble (f_mkLI r18).length) <|
 entK ok_hdRm ea_hdRm (f_hdRm) [(0, true,
    [C.tr false (T.int IntKind.i64 r5.h.1), C.tr false (T.int IntKind.i64 r5.h.2),
      C.tr false (T.int IntKind.i64 r5.up.1), C.tr false (T.int IntKind.i64 r5.up.2),
      C.tr false
        (T.arr 2 (f_mkHdS r16).length (cutT 0 (f_mkHdS r16).length (atL Hd.cs (f_mkHdS r16)))),
      C.tr false (T.int IntKind.i64 r5.4), C.tr false (T.int IntKind.i64 r5.5),
      C.tr false (T.bool r5.6), C.tr false (T.int IntKind.i64 r5.7),
      C.tr false
        (T.arr 1 (f_mkSfS r17).length (cutT 0 (f_mkSfS r17).length (atL Sf.cs (f_mkSfS r17)))),
      C.tr false
        (T.arr 1 (f_mkLI r18).length (cutT 0 (f_mkLI r18).length (atL rowI (f_mkLI r18))))]),
  (0, false, [C.tr false (T.int IntKind.i64 1)])] fun (r19 : Int) =>
 K .normal (sq_xSeenAt_16 w h r3 r5 r16 r17 r18 r19)) := by kernel_rfl
def sq_xSeenAt_17 (w : Wd) (h : Hd) (r3 : Rm) (r5 : Rm) (r16 : List Hd × Int) (r17 : List Sf × Int) (r18 : List Int × Int) (r19 : Int) : St := [(8, ⟨z0, [(false, [(C.pt (Pt.ptr 9 0 [] 12 0 0))])]⟩), (ce_xSeenAt_0 w), (12, ⟨z0, [(false, [(C.pt (Pt.ptr 13 0 [] 2 0 0))])]⟩), (13, ⟨z0, [(true, [.tr true (T.int IntKind.i64 h.1), .tr true (T.int IntKind.i64 h.2)])]⟩), (24, ⟨z0, [(false, [(C.pt (Pt.ptr 25 0 [] 11 0 0))])]⟩), (ce_xSeenAt_1 r3), (32, ⟨z0, [(false, [(C.pt (Pt.ptr 33 0 [] 11 0 0))])]⟩), (ce_xSeenAt_7 r5 r16 r17 r18), (40, ⟨z0, [(false, [.tr true (T.int IntKind.i64 (f_ctLI r18))])]⟩), (44, ⟨z0, [(false, [.tr true (T.int IntKind.i64 r19)])]⟩), (ce_xSeenAt_2 r3), (ce_xSeenAt_6 r5), (224, ⟨z0, []⟩)]
theorem sg_xSeenAt_16 (w : Wd) (h : Hd) (r3 : Rm) (r5 : Rm) (r16 : List Hd × Int) (r17 : List Sf × Int) (r18 : List Int × Int) (r19 : Int) (n : Nat) (K : Ex → St → Res) : atP prog (tabS [(i_SzWd, e_SzWd), (i_ToWd, e_ToWd), (i_toHd, e_toHd), (i_sSnAt, e_sSnAt), (i_iSnAt, e_iSnAt), (i_EqRm, e_EqRm), (i_EqWd, e_EqWd), (i_mkWd, e_mkWd), (i_mkRm, e_mkRm), (i_hdRm, e_hdRm)]) kp_xSeenAt F_xSeenAt [1, 1, 1, 1, 1, 1, 1, 1, 1, 1, 1, 1, 1, 1, 1, 1, 0] n (sq_xSeenAt_16 w h r3 r5 r16 r17 r18 r19) K = (
 bif decide (r19 < 0) then
  K .ret [(16, ⟨z0, [(false, [.tr true (T.bool false)])]⟩)]
 else
 K .normal (sq_xSeenAt_17 w h r3 r5 r16 r17 r18 r19)) := by kernel_rfl
def sq_xSeenAt_18 (w : Wd) (h : Hd) (r3 : Rm) (r5 : Rm) (r16 : List Hd × Int) (r17 : List Sf × Int) (r18 : List Int × Int) : St := [(8, ⟨z0, [(false, [(C.pt (Pt.ptr 9 0 [] 12 0 0))])]⟩), (ce_xSeenAt_0 w), (12, ⟨z0, [(false, [(C.pt (Pt.ptr 13 0 [] 2 0 0))])]⟩), (13, ⟨z0, [(true, [.tr true (T.int IntKind.i64 h.1), .tr true (T.int IntKind.i64 h.2)])]⟩), (24, ⟨z0, [(false, [(C.pt (Pt.ptr 25 0 [] 11 0 0))])]⟩), (ce_xSeenAt_1 r3), (32, ⟨z0, [(false, [(C.pt (Pt.ptr 33 0 [] 11 0 0))])]⟩), (ce_xSeenAt_7 r5 r16 r17 r18), (40, ⟨z0, [(false, [.tr true (T.int IntKind.i64 (f_ctLI r18))])]⟩), (ce_xSeenAt_2 r3), (ce_xSeenAt_6 r5), (236, ⟨z0, []⟩)]
theorem sg_xSeenAt_17 (w : Wd) (h : Hd) (r3 : Rm) (r5 : Rm) (r16 : List Hd × Int) (r17 : List Sf × Int) (r18 : List Int × Int) (r19 : Int) (n : Nat) (K : Ex → St → Res) : atP prog (tabS [(i_SzWd, e_SzWd), (i_ToWd, e_ToWd), (i_toHd, e_toHd), (i_sSnAt, e_sSnAt), (i_iSnAt, e_iSnAt), (i_EqRm, e_EqRm), (i_EqWd, e_EqWd), (i_mkWd, e_mkWd), (i_mkRm, e_mkRm), (i_hdRm, e_hdRm)]) kp_xSeenAt F_xSeenAt [1, 1, 1, 1, 1, 1, 1, 1, 1, 1, 1, 1, 1, 1, 1, 1, 1, 0] n (sq_xSeenAt_17 w h r3 r5 r16 r17 r18 r19) K = (
 bif r19 != f_ctLI r18 then
  K .ret [(16, ⟨z0, [(false, [.tr true (T.bool false)])]⟩)]
 else
 K .normal (sq_xSeenAt_18 w h r3 r5 r16 r17 r18)) := by kernel_rfl
def ce_xSeenAt_8 (r21 : Rm) : Nat × Ct := (49, ⟨z0, [(true, [.tr true (T.int IntKind.i64 r21.h.1), .tr true (T.int IntKind.i64 r21.h.2), .tr true (T.int IntKind.i64 r21.up.1), .tr true (T.int IntKind.i64 r21.up.2), .tr true (.arr (2) (r21.3.length) ((eL 2 Hd.cs r21.3).fn)), .tr true (T.int IntKind.i64 r21.4), .tr true (T.int IntKind.i64 r21.5), .tr true (T.bool r21.6), .tr true (T.int IntKind.i64 r21.7), .tr true (.arr (1) (r21.8.length) ((eL 1 Sf.cs r21.8).fn)), .tr true (.arr (1) (r21.9.length) ((eL 1 rowI r21.9).fn))])]⟩)
def ce_xSeenAt_9 (r21 : Rm) : Nat × Ct := (256, ⟨z0, [(true, [.tr true (T.int IntKind.i64 r21.h.1), .tr true (T.int IntKind.i64 r21.h.2), .tr true (T.int IntKind.i64 r21.up.1), .tr true (T.int IntKind.i64 r21.up.2), .tr true (T.hole), .tr true (T.int IntKind.i64 r21.4), .tr true (T.int IntKind.i64 r21.5), .tr true (T.bool r21.6), .tr true (T.int IntKind.i64 r21.7), .tr true (T.hole), .tr true (T.hole)])]⟩)
def sq_xSeenAt_19 (w : Wd) (h : Hd) (r3 : Rm) (r5 : Rm) (r16 : List Hd × Int) (r17 : List Sf × Int) (r18 : List Int × Int) (r21 : Rm) : St := [(24, ⟨z0, [(false, [(C.pt (Pt.ptr 25 0 [] 11 0 0))])]⟩), (ce_xSeenAt_1 r3), (32, ⟨z0, [(false, [(C.pt (Pt.ptr 33 0 [] 11 0 0))])]⟩), (ce_xSeenAt_7 r5 r16 r17 r18), (40, ⟨z0, [(false, [.tr true (T.int IntKind.i64 (f_ctLI r18))])]⟩), (48, ⟨z0, [(false, [(C.pt (Pt.ptr 49 0 [] 11 0 0))])]⟩), (ce_xSeenAt_8 r21), (ce_xSeenAt_2 r3), (ce_xSeenAt_6 r5), (ce_xSeenAt_9 r21)]
theorem sg_xSeenAt_18 (w : Wd) (h : Hd) (r3 : Rm) (r5 : Rm) (r16 : List Hd × Int) (r17 : List Sf × Int) (r18 : List Int × Int) (n : Nat) (K : Ex → St → Res) : atP prog (tabS [(i_SzWd, e_SzWd), (i_ToWd, e_ToWd), (i_toHd, e_toHd), (i_sSnAt, e_sSnAt), (i_iSnAt, e_iSnAt), (i_EqRm, e_EqRm), (i_EqWd, e_EqWd), (i_mkWd, e_mkWd), (i_mkRm, e_mkRm), (i_hdRm, e_hdRm)]) kp_xSeenAt F_xSeenAt [1, 1, 1, 1, 1, 1, 1, 1, 1, 1, 1, 1, 1, 1, 1, 1, 1, 1, 0] n (sq_xSeenAt_18 w h r3 r5 r16 r17 r18) K = (
 entK ok_ToWd ea_ToWd (f_ToWd) [(0, true,
    [C.tr false (T.int IntKind.i64 w.c.1), C.tr false (T.int IntKind.i64 w.c.2),
      C.tr false (T.int IntKind.i64 w.c.3), C.tr false (T.int IntKind.i64 w.c.4),
      C.tr false (T.int IntKind.i64 w.c.5), C.tr false (T.int IntKind.i64 w.c.6), C.tr false (eL 1 rowB w.p.1),
      C.tr false (eL 1 rowI w.p.2), C.tr false (eL 1 rowI w.p.3), C.tr false (eL 13 Nd.cs w.3),
      C.tr false (eL 5 Ws.cs w.4), C.tr false (eL 1 rowI w.5)])] fun (r20 : Wd) =>
 gd ((0 + r20.p.1.length).ble r20.p.1.length) <|
 gd ((0 + r20.p.2.length).ble r20.p.2.length) <|
 gd ((0 + r20.p.3.length).ble r20.p.3.length) <|
 gd ((0 + r20.3.length).ble r20.3.length) <|
 gd ((0 + r20.4.length).ble r20.4.length) <|
 gd ((0 + r20.5.length).ble r20.5.length) <|
 entK ok_iSnAt ea_iSnAt (f_iSnAt) [(0, true,
    [C.tr false (T.int IntKind.i64 r20.c.1), C.tr false (T.int IntKind.i64 r20.c.2),
      C.tr false (T.int IntKind.i64 r20.c.3), C.tr false (T.int IntKind.i64 r20.c.4),
      C.tr false (T.int IntKind.i64 r20.c.5), C.tr false (T.int IntKind.i64 r20.c.6),
      C.tr false (T.arr 1 r20.p.1.length (cutT 0 r20.p.1.length (eL 1 rowB r20.p.1).fn)),
      C.tr false (T.arr 1 r20.p.2.length (cutT 0 r20.p.2.length (eL 1 rowI r20.p.2).fn)),
      C.tr false (T.arr 1 r20.p.3.length (cutT 0 r20.p.3.length (eL 1 rowI r20.p.3).fn)),
      C.tr false (T.arr 13 r20.3.length (cutT 0 r20.3.length (eL 13 Nd.cs r20.3).fn)),
      C.tr false (T.arr 5 r20.4.length (cutT 0 r20.4.length (eL 5 Ws.cs r20.4).fn)),
      C.tr false (T.arr 1 r20.5.length (cutT 0 r20.5.length (eL 1 rowI r20.5).fn))]),
  (0, true, [C.tr false (T.int IntKind.i64 h.1), C.tr false (T.int IntKind.i64 h.2)])] fun (r21 : Rm) =>
 gd (r21.3.length.ble r21.3.length && true) <|
 gd (r21.8.length.ble r21.8.length && true) <|
 gd (r21.9.length.ble r21.9.length && true) <|
 K .normal (sq_xSeenAt_19 w h r3 r5 r16 r17 r18 r21)) := by kernel_rfl
def sq_xSeenAt_20 (w : Wd) (h : Hd) (r5 : Rm) (r16 : List Hd × Int) (r17 : List Sf × Int) (r18 : List Int × Int) : St := [(32, ⟨z0, [(false, [(C.pt (Pt.ptr 33 0 [] 11 0 0))])]⟩), (ce_xSeenAt_7 r5 r16 r17 r18), (40, ⟨z0, [(false, [.tr true (T.int IntKind.i64 (f_ctLI r18))])]⟩), (ce_xSeenAt_6 r5), (272, ⟨z0, []⟩)]
theorem sg_xSeenAt_19 (w : Wd) (h : Hd) (r3 : Rm) (r5 : Rm) (r16 : List Hd × Int) (r17 : List Sf × Int) (r18 : List Int × Int) (r21 : Rm) (n : Nat) (K : Ex → St → Res) : atP prog (tabS [(i_SzWd, e_SzWd), (i_ToWd, e_ToWd), (i_toHd, e_toHd), (i_sSnAt, e_sSnAt), (i_iSnAt, e_iSnAt), (i_EqRm, e_EqRm), (i_EqWd, e_EqWd), (i_mkWd, e_mkWd), (i_mkRm, e_mkRm), (i_hdRm, e_hdRm)]) kp_xSeenAt F_xSeenAt [1, 1, 1, 1, 1, 1, 1, 1, 1, 1, 1, 1, 1, 1, 1, 1, 1, 1, 1, 0] n (sq_xSeenAt_19 w h r3 r5 r16 r17 r18 r21) K = (
 gd ((0 + r21.3.length).ble r21.3.length) <|
 gd ((0 + r21.8.length).ble r21.8.length) <|
 gd ((0 + r21.9.length).ble r21.9.length) <|
 gd ((0 + r3.3.length).ble r3.3.length) <|
 gd ((0 + r3.8.length).ble r3.8.length) <|
 gd ((0 + r3.9.length).ble r3.9.length) <|
 entK ok_EqRm ea_EqRm (f_EqRm) [(0, true,
    [C.tr false (T.int IntKind.i64 r21.h.1), C.tr false (T.int IntKind.i64 r21.h.2),
      C.tr false (T.int IntKind.i64 r21.up.1), C.tr false (T.int IntKind.i64 r21.up.2),
      C.tr false (T.arr 2 r21.3.length (cutT 0 r21.3.length (eL 2 Hd.cs r21.3).fn)),
      C.tr false (T.int IntKind.i64 r21.4), C.tr false (T.int IntKind.i64 r21.5),
      C.tr false (T.bool r21.6), C.tr false (T.int IntKind.i64 r21.7),
      C.tr false (T.arr 1 r21.8.length (cutT 0 r21.8.length (eL 1 Sf.cs r21.8).fn)),
      C.tr false (T.arr 1 r21.9.length (cutT 0 r21.9.length (eL 1 rowI r21.9).fn))]),
  (0, true,
    [C.tr false (T.int IntKind.i64 r3.h.1), C.tr false (T.int IntKind.i64 r3.h.2),
      C.tr false (T.int IntKind.i64 r3.up.1), C.tr false (T.int IntKind.i64 r3.up.2),
      C.tr false (T.arr 2 r3.3.length (cutT 0 r3.3.length (eL 2 Hd.cs r3.3).fn)),
      C.tr false (T.int IntKind.i64 r3.4), C.tr false (T.int IntKind.i64 r3.5),
      C.tr false (T.bool r3.6), C.tr false (T.int IntKind.i64 r3.7),
      C.tr false (T.arr 1 r3.8.length (cutT 0 r3.8.length (eL 1 Sf.cs r3.8).fn)),
      C.tr false (T.arr 1 r3.9.length (cutT 0 r3.9.length (eL 1 rowI r3.9).fn))])] fun (r22 : Bool) =>
 bif !r22 then
  K .ret [(16, ⟨z0, [(false, [.tr true (T.bool false)])]⟩)]
 else
 K .normal (sq_xSeenAt_20 w h r5 r16 r17 r18)) := by kernel_rfl
def sq_xSeenAt_21 (w : Wd) (h : Hd) (r5 : Rm) (r16 : List Hd × Int) (r17 : List Sf × Int) (r18 : List Int × Int) : St := [(32, ⟨z0, [(false, [(C.pt (Pt.ptr 33 0 [] 11 0 0))])]⟩), (ce_xSeenAt_7 r5 r16 r17 r18), (40, ⟨z0, [(false, [.tr true (T.int IntKind.i64 (f_ctLI r18))])]⟩), (44, ⟨z0, [(false, [.tr true (T.int IntKind.i64 1)])]⟩), (ce_xSeenAt_6 r5)]
theorem sg_xSeenAt_20 (w : Wd) (h : Hd) (r5 : Rm) (r16 : List Hd × Int) (r17 : List Sf × Int) (r18 : List Int × Int) (n : Nat) (K : Ex → St → Res) : atP prog (tabS [(i_SzWd, e_SzWd), (i_ToWd, e_ToWd), (i_toHd, e_toHd), (i_sSnAt, e_sSnAt), (i_iSnAt, e_iSnAt), (i_EqRm, e_EqRm), (i_EqWd, e_EqWd), (i_mkWd, e_mkWd), (i_mkRm, e_mkRm), (i_hdRm, e_hdRm)]) kp_xSeenAt F_xSeenAt [1, 1, 1, 1, 1, 1, 1, 1, 1, 1, 1, 1, 1, 1, 1, 1, 1, 1, 1, 1, 0] n (sq_xSeenAt_20 w h r5 r16 r17 r18) K = (
 K .normal (sq_xSeenAt_21 w h r5 r16 r17 r18)) := by kernel_rfl
def sq_xSeenAt_22 (w : Wd) (h : Hd) (r18 : List Int × Int) (r23 : Int) : St := [(40, ⟨z0, [(false, [.tr true (T.int IntKind.i64 (f_ctLI r18))])]⟩), (44, ⟨z0, [(false, [.tr true (T.int IntKind.i64 r23)])]⟩)]
theorem sg_xSeenAt_21 (w : Wd) (h : Hd) (r5 : Rm) (r16 : List Hd × Int) (r17 : List Sf × Int) (r18 : List Int × Int) (n : Nat) (K : Ex → St → Res) : atP prog (tabS [(i_SzWd, e_SzWd), (i_ToWd, e_ToWd), (i_toHd, e_toHd), (i_sSnAt, e_sSnAt), (i_iSnAt, e_iSnAt), (i_EqRm, e_EqRm), (i_EqWd, e_EqWd), (i_mkWd, e_mkWd), (i_mkRm, e_mkRm), (i_hdRm, e_hdRm)]) kp_xSeenAt F_xSeenAt [1, 1, 1, 1, 1, 1, 1, 1, 1, 1, 1, 1, 1, 1, 1, 1, 1, 1, 1, 1, 1, 0] n (sq_xSeenAt_21 w h r5 r16 r17 r18) K = (
 gd ((0 + (f_mkHdS r16).length).ble (f_mkHdS r16).length) <|
 gd ((0 + (f_mkSfS r17).length).ble (f_mkSfS r17).length) <|
 gd ((0 + (f_mkLI r18).length).ble (f_mkLI r18).length) <|
 entK ok_hdRm ea_hdRm (f_hdRm) [(0, true,
    [C.tr false (T.int IntKind.i64 r5.h.1), C.tr false (T.int IntKind.i64 r5.h.2),
      C.tr false (T.int IntKind.i64 r5.up.1), C.tr false (T.int IntKind.i64 r5.up.2),
      C.tr false
        (T.arr 2 (f_mkHdS r16).length (cutT 0 (f_mkHdS r16).length (atL Hd.cs (f_mkHdS r16)))),
      C.tr false (T.int IntKind.i64 r5.4), C.tr false (T.int IntKind.i64 r5.5),
      C.tr false (T.bool r5.6), C.tr false (T.int IntKind.i64 r5.7),
      C.tr false
        (T.arr 1 (f_mkSfS r17).length (cutT 0 (f_mkSfS r17).length (atL Sf.cs (f_mkSfS r17)))),
      C.tr false
        (T.arr 1 (f_mkLI r18).length (cutT 0 (f_mkLI r18).length (atL rowI (f_mkLI r18))))]),
  (0, false, [C.tr false (T.int IntKind.i64 1)])] fun (r23 : Int) =>
 K .normal (sq_xSeenAt_22 w h r18 r23)) := by kernel_rfl
def sq_xSeenAt_23 (w : Wd) (h : Hd) (r18 : List Int × Int) (r23 : Int) : St := [(40, ⟨z0, [(false, [.tr true (T.int IntKind.i64 (f_ctLI r18))])]⟩), (44, ⟨z0, [(false, [.tr true (T.int IntKind.i64 r23)])]⟩), (292, ⟨z0, []⟩)]
theorem sg_xSeenAt_22 (w : Wd) (h : Hd) (r18 : List Int × Int) (r23 : Int) (n : Nat) (K : Ex → St → Res) : atP prog (tabS [(i_SzWd, e_SzWd), (i_ToWd, e_ToWd), (i_toHd, e_toHd), (i_sSnAt, e_sSnAt), (i_iSnAt, e_iSnAt), (i_EqRm, e_EqRm), (i_EqWd, e_EqWd), (i_mkWd, e_mkWd), (i_mkRm, e_mkRm), (i_hdRm, e_hdRm)]) kp_xSeenAt F_xSeenAt [1, 1, 1, 1, 1, 1, 1, 1, 1, 1, 1, 1, 1, 1, 1, 1, 1, 1, 1, 1, 1, 1, 0] n (sq_xSeenAt_22 w h r18 r23) K = (
 bif decide (r23 < 0) then
  K .ret [(16, ⟨z0, [(false, [.tr true (T.bool false)])]⟩)]
 else
 K .normal (sq_xSeenAt_23 w h r18 r23)) := by kernel_rfl
def sq_xSeenAt_24 (w : Wd) (h : Hd) : St := [(304, ⟨z0, []⟩)]
theorem sg_xSeenAt_23 (w : Wd) (h : Hd) (r18 : List Int × Int) (r23 : Int) (n : Nat) (K : Ex → St → Res) : atP prog (tabS [(i_SzWd, e_SzWd), (i_ToWd, e_ToWd), (i_toHd, e_toHd), (i_sSnAt, e_sSnAt), (i_iSnAt, e_iSnAt), (i_EqRm, e_EqRm), (i_EqWd, e_EqWd), (i_mkWd, e_mkWd), (i_mkRm, e_mkRm), (i_hdRm, e_hdRm)]) kp_xSeenAt F_xSeenAt [1, 1, 1, 1, 1, 1, 1, 1, 1, 1, 1, 1, 1, 1, 1, 1, 1, 1, 1, 1, 1, 1, 1, 0] n (sq_xSeenAt_23 w h r18 r23) K = (
 bif r23 != f_ctLI r18 then
  K .ret [(16, ⟨z0, [(false, [.tr true (T.bool false)])]⟩)]
 else
 K .normal (sq_xSeenAt_24 w h)) := by kernel_rfl
def sq_xSeenAt_25 (w : Wd) (h : Hd) : St := [(16, ⟨z0, [(false, [.tr true (T.bool true)])]⟩)]
theorem sg_xSeenAt_24 (w : Wd) (h : Hd) (n : Nat) (K : Ex → St → Res) : atP prog (tabS [(i_SzWd, e_SzWd), (i_ToWd, e_ToWd), (i_toHd, e_toHd), (i_sSnAt, e_sSnAt), (i_iSnAt, e_iSnAt), (i_EqRm, e_EqRm), (i_EqWd, e_EqWd), (i_mkWd, e_mkWd), (i_mkRm, e_mkRm), (i_hdRm, e_hdRm)]) kp_xSeenAt F_xSeenAt [1, 1, 1, 1, 1, 1, 1, 1, 1, 1, 1, 1, 1, 1, 1, 1, 1, 1, 1, 1, 1, 1, 1, 1, 0] n (sq_xSeenAt_24 w h) K = (
 K .normal (sq_xSeenAt_25 w h)) := by kernel_rfl
theorem sg_xSeenAt_25 (w : Wd) (h : Hd) (n : Nat) (K : Ex → St → Res) : atP prog (tabS [(i_SzWd, e_SzWd), (i_ToWd, e_ToWd), (i_toHd, e_toHd), (i_sSnAt, e_sSnAt), (i_iSnAt, e_iSnAt), (i_EqRm, e_EqRm), (i_EqWd, e_EqWd), (i_mkWd, e_mkWd), (i_mkRm, e_mkRm), (i_hdRm, e_hdRm)]) kp_xSeenAt F_xSeenAt [1, 1, 1, 1, 1, 1, 1, 1, 1, 1, 1, 1, 1, 1, 1, 1, 1, 1, 1, 1, 1, 1, 1, 1, 1] n (sq_xSeenAt_25 w h) K = (
 K .ret [(16, ⟨z0, [(false, [.tr true (T.bool true)])]⟩)]) := by kernel_rfl
theorem body_xSeenAt (w : Wd) (h : Hd) (hw : z_Wd w) (hh : z_Hd h) (hu : ndx w.l) (hv : upI w.l) (hi : inI h.slot) (n : Nat) : body prog (tabS [(i_SzWd, e_SzWd), (i_ToWd, e_ToWd), (i_toHd, e_toHd), (i_sSnAt, e_sSnAt), (i_iSnAt, e_iSnAt), (i_EqRm, e_EqRm), (i_EqWd, e_EqWd), (i_mkWd, e_mkWd), (i_mkRm, e_mkRm), (i_hdRm, e_hdRm)]) kp_xSeenAt n F_xSeenAt [aR w.cs, aR h.cs] = some (erB 2 true) := by
  have hzm := zm
  have hlm := lm
  have hbm := bm
  have rsx := And.intro @lt_d (And.intro @ge0_d (And.intro @Int.toNat_natCast (And.intro @blt_d (And.intro @ble_self (And.intro @beq_self (And.intro @decide_true (And.intro @cond_true.{1} (And.intro @Bool.and_self (And.intro @Bool.and_true (And.intro @Bool.true_and (And.intro @gd_true (And.intro @Nat.zero_add (And.intro @List.getD_cons_zero.{0} (And.intro @List.getD_cons_succ.{0} (And.intro @isI_int (And.intro @toI_int (And.intro @isB_bool (And.intro @toB_bool (And.intro @eL_T (And.intro @arr_ln (And.intro @arr_fn (And.intro @arr_wd (And.intro @arr_is (And.intro @arr_get (And.intro @cut_all (And.intro @bool_self (And.intro @bool_nself (And.intro @int_self (And.intro @int_nself (And.intro @Bool.not_true (And.intro @Bool.not_false (And.intro @cond_false.{1} (And.intro @nextP_n @nextP_r)))))))))))))))))))))))))))))))))
  rw [body_at _ _ _ _ _ _ (by kernel_rfl), show initA F_xSeenAt.ntmps 0 [aR w.cs, aR h.cs] = sq_xSeenAt_0 w h from by kernel_rfl]
  have y0 : ok_SzWd (w, 1048576) := ⟨hw, by dsimp only; omega, by dsimp only; omega⟩
  by_cases e0 : (n_Wd w : Int) ≤ 1048576
  case neg =>
    rw [atP_seq (p := []) (q0 := [0]) (q1 := [1]) (by kernel_rfl) rfl rfl]
    rw [sg_xSeenAt_0]
    try simp (implicitDefEqProofs := false) only [rsx, Wd.cs, Hd.cs, n_SzWd e0, decide_eq_true (show (-1 : Int) < 0 by omega)]
    rw [atP_seq (p := [1]) (q0 := [1, 0]) (q1 := [1, 1]) (by kernel_rfl) rfl rfl]
    rw [sg_xSeenAt_1]
    try simp (implicitDefEqProofs := false) only [rsx, Wd.cs, Hd.cs, n_SzWd e0, decide_eq_true (show (-1 : Int) < 0 by omega)]
    rw [atP_seq (p := [1, 1]) (q0 := [1, 1, 0]) (q1 := [1, 1, 1]) (by kernel_rfl) rfl rfl]
    rw [sg_xSeenAt_2]
    try simp (implicitDefEqProofs := false) only [rsx, Wd.cs, Hd.cs, n_SzWd e0, decide_eq_true (show (-1 : Int) < 0 by omega)]
    rw [entK_of (dm_SzWd y0) (iv_SzWd y0)]
    try simp (implicitDefEqProofs := false) only [rsx, Wd.cs, Hd.cs, n_SzWd e0, decide_eq_true (show (-1 : Int) < 0 by omega)]
    rw [atP_seq (p := [1, 1, 1]) (q0 := [1, 1, 1, 0]) (q1 := [1, 1, 1, 1]) (by kernel_rfl) rfl rfl]
    rw [sg_xSeenAt_3]
    try simp (implicitDefEqProofs := false) only [rsx, Wd.cs, Hd.cs, n_SzWd e0, decide_eq_true (show (-1 : Int) < 0 by omega)]
    rfl
  have f0 : ¬ 1048576 - (n_Wd w : Int) < 0 := by omega
  obtain ⟨g0, q0⟩ := okn_Wd (l := w) (by omega)
  have c0 : ok_sSnAt (w, h) := ⟨g0.2.2.2.1.1, g0.1, hi, ndI_of g0.2.2.2.1 hu, hv⟩
  have c1 : ok_iSnAt (w, h) := ⟨g0.2.2.2.1.1, g0.1, hi, ndI_of g0.2.2.2.1 hu, hv⟩
  have c2 : ok_EqWd (w, w) := q0
  have hn0 : n_Wd w = n_LB w.p.mem + n_LI w.p.st + n_LI w.p.own + n_NdS w.l + n_WsS w.q + n_LI w.log := rfl
  have hb0 := cb_LB w.p.mem
  have hk0 : okh_LB (w.p.mem, 1) := ⟨q0.1, by dsimp only; omega, by dsimp only; omega⟩
  have hb1 := cb_LI w.p.st
  have hk1 : okh_LI (w.p.st, 1 + (cntL c1_LB w.p.mem : Int)) := ⟨q0.2.1, by dsimp only; omega, by dsimp only; omega⟩
  have hb2 := cb_LI w.p.own
  have hk2 : okh_LI (w.p.own, 1 + (cntL c1_LB w.p.mem : Int) + (cntL c1_LI w.p.st : Int)) := ⟨q0.2.2.1, by dsimp only; omega, by dsimp only; omega⟩
  have hb3 := cb_NdS w.l
  have hk3 : okh_NdS (w.l, 1 + (cntL c1_LB w.p.mem : Int) + (cntL c1_LI w.p.st : Int) + (cntL c1_LI w.p.own : Int)) := ⟨q0.2.2.2.1, by dsimp only; omega, by dsimp only; omega⟩
  have hb4 := cb_WsS w.q
  have hk4 : okh_WsS (w.q, 1 + (cntL c1_LB w.p.mem : Int) + (cntL c1_LI w.p.st : Int) + (cntL c1_LI w.p.own : Int) + (cntL c1_NdS w.l : Int)) := ⟨q0.2.2.2.2.1, by dsimp only; omega, by dsimp only; omega⟩
  have hb5 := cb_LI w.log
  have hk5 : okh_LI (w.log, 1 + (cntL c1_LB w.p.mem : Int) + (cntL c1_LI w.p.st : Int) + (cntL c1_LI w.p.own : Int) + (cntL c1_NdS w.l : Int) + (cntL c1_WsS w.q : Int)) := ⟨q0.2.2.2.2.2, by dsimp only; omega, by dsimp only; omega⟩
  have hkm : ¬ 1 + (cntL c1_LB w.p.mem : Int) + (cntL c1_LI w.p.st : Int) + (cntL c1_LI w.p.own : Int) + (cntL c1_NdS w.l : Int) + (cntL c1_WsS w.q : Int) + (cntL c1_LI w.log : Int) < 0 := by omega
  have ro := snA_ok (h := h) e0
  have ro2 := ro.2
  have rb0 := cb_HdS (snA w h).kids
  have rb1 := cb_SfS (snA w h).things
  have rb2 := cb_LI (snA w h).tags
  have cq : ok_EqRm (snA w h, snA w h) := ro.1
  have mq0 : okq_HdS (snA w h).kids := ro.1.1
  have mh0 : okh_HdS ((snA w h).kids, 1) := ⟨mq0, by dsimp only; omega, by dsimp only; omega⟩
  have mn1 : ¬ 1 + (cntL c1_HdS (snA w h).kids : Int) < 0 := by omega
  have mq1 : okq_SfS (snA w h).things := ro.1.2.1
  have mh1 : okh_SfS ((snA w h).things, 1 + (cntL c1_HdS (snA w h).kids : Int)) := ⟨mq1, by dsimp only; omega, by dsimp only; omega⟩
  have mn2 : ¬ 1 + (cntL c1_HdS (snA w h).kids : Int) + (cntL c1_SfS (snA w h).things : Int) < 0 := by omega
  have mq2 : okq_LI (snA w h).tags := ro.1.2.2
  have mh2 : okh_LI ((snA w h).tags, 1 + (cntL c1_HdS (snA w h).kids : Int) + (cntL c1_SfS (snA w h).things : Int)) := ⟨mq2, by dsimp only; omega, by dsimp only; omega⟩
  have mn3 : ¬ 1 + (cntL c1_HdS (snA w h).kids : Int) + (cntL c1_SfS (snA w h).things : Int) + (cntL c1_LI (snA w h).tags : Int) < 0 := by omega
  have mc0 : ok_hdRm ((Rm.mk ((snA w h).h) ((snA w h).up) (mk_HdS (snA w h).kids (1)) ((snA w h).ep) ((snA w h).chunks) ((snA w h).cur) ((snA w h).bump) (mk_SfS (snA w h).things (1 + (cntL c1_HdS (snA w h).kids : Int))) (mk_LI (snA w h).tags (1 + (cntL c1_HdS (snA w h).kids : Int) + (cntL c1_SfS (snA w h).things : Int)))), 1) := ⟨⟨okqmk_HdS mq0, by dsimp only; omega, by dsimp only; simp only [ctmk_HdS, ctmk_SfS, ctmk_LI]; omega⟩, ⟨okqmk_SfS mq1, by dsimp only; omega, by dsimp only; simp only [ctmk_HdS, ctmk_SfS, ctmk_LI]; omega⟩, ⟨okqmk_LI mq2, by dsimp only; omega, by dsimp only; simp only [ctmk_HdS, ctmk_SfS, ctmk_LI]; omega⟩⟩
  have dm_hdRm := dm_hdRm mc0
  have iv_hdRm := iv_hdRm mc0
  have hv0 : f_hdRm ((Rm.mk ((snA w h).h) ((snA w h).up) (mk_HdS (snA w h).kids (1)) ((snA w h).ep) ((snA w h).chunks) ((snA w h).cur) ((snA w h).bump) (mk_SfS (snA w h).things (1 + (cntL c1_HdS (snA w h).kids : Int))) (mk_LI (snA w h).tags (1 + (cntL c1_HdS (snA w h).kids : Int) + (cntL c1_SfS (snA w h).things : Int)))), 1) = 1 + (cntL c1_HdS (snA w h).kids : Int) + (cntL c1_SfS (snA w h).things : Int) + (cntL c1_LI (snA w h).tags : Int) := by simp [f_hdRm, ctmk_HdS, ctmk_SfS, ctmk_LI, mkmk_HdS, mkmk_SfS, mkmk_LI]
  dsimp only at dm_hdRm iv_hdRm
  have fx := And.intro (y_SzWd e0) (And.intro (decide_eq_false f0) (And.intro @d_ToWd (And.intro @d_sSnAt (And.intro @d_iSnAt (And.intro @d_EqWd (And.intro (decide_eq_false hkm) (And.intro (decide_eq_false mn1) (And.intro (decide_eq_false mn2) (And.intro (decide_eq_false mn3) (And.intro @hv0 (And.intro @d_mkLB (And.intro @d_ctLB (And.intro @beq_mkLB (And.intro @d_mkLI (And.intro @d_ctLI (And.intro @beq_mkLI (And.intro @d_mkNdS (And.intro @d_ctNdS (And.intro @beq_mkNdS (And.intro @d_mkWsS (And.intro @d_ctWsS (And.intro @beq_mkWsS (And.intro @d_mkHdS (And.intro @d_ctHdS (And.intro @beq_mkHdS (And.intro @d_mkSfS (And.intro @d_ctSfS (And.intro @beq_mkSfS @d_EqRm))))))))))))))))))))))))))))
  rw [atP_seq (p := []) (q0 := [0]) (q1 := [1]) (by kernel_rfl) rfl rfl]
  rw [sg_xSeenAt_0]
  try simp (implicitDefEqProofs := false) only [rsx, Wd.cs, Hd.cs, fx]
  rw [atP_seq (p := [1]) (q0 := [1, 0]) (q1 := [1, 1]) (by kernel_rfl) rfl rfl]
  rw [sg_xSeenAt_1]
  try simp (implicitDefEqProofs := false) only [rsx, Wd.cs, Hd.cs, fx]
  rw [atP_seq (p := [1, 1]) (q0 := [1, 1, 0]) (q1 := [1, 1, 1]) (by kernel_rfl) rfl rfl]
  rw [sg_xSeenAt_2]
  try simp (implicitDefEqProofs := false) only [rsx, Wd.cs, Hd.cs, fx]
  rw [entK_of (dm_SzWd y0) (iv_SzWd y0)]
  try simp (implicitDefEqProofs := false) only [rsx, Wd.cs, Hd.cs, fx]
  rw [atP_seq (p := [1, 1, 1]) (q0 := [1, 1, 1, 0]) (q1 := [1, 1, 1, 1]) (by kernel_rfl) rfl rfl]
  rw [sg_xSeenAt_3]
  try simp (implicitDefEqProofs := false) only [rsx, Wd.cs, Hd.cs, fx]
  rw [atP_seq (p := [1, 1, 1, 1]) (q0 := [1, 1, 1, 1, 0]) (q1 := [1, 1, 1, 1, 1]) (by kernel_rfl) rfl rfl]
  rw [sg_xSeenAt_4]
  try simp (implicitDefEqProofs := false) only [rsx, Wd.cs, Hd.cs, fx]
  rw [entK_of (dm_ToWd g0) (iv_ToWd g0)]
  try simp (implicitDefEqProofs := false) only [rsx, Wd.cs, Hd.cs, fx]
  rw [entK_of (dm_sSnAt c0) (iv_sSnAt c0)]
  try simp (implicitDefEqProofs := false) only [rsx, Wd.cs, Hd.cs, fx]
  rw [atP_seq (p := [1, 1, 1, 1, 1]) (q0 := [1, 1, 1, 1, 1, 0]) (q1 := [1, 1, 1, 1, 1, 1]) (by kernel_rfl) rfl rfl]
  rw [sg_xSeenAt_5]
  try simp (implicitDefEqProofs := false) only [rsx, Wd.cs, Hd.cs, fx]
  rw [entK_of (dm_ToWd g0) (iv_ToWd g0)]
  try simp (implicitDefEqProofs := false) only [rsx, Wd.cs, Hd.cs, fx]
  rw [atP_seq (p := [1, 1, 1, 1, 1, 1]) (q0 := [1, 1, 1, 1, 1, 1, 0]) (q1 := [1, 1, 1, 1, 1, 1, 1]) (by kernel_rfl) rfl rfl]
  rw [sg_xSeenAt_6]
  try simp (implicitDefEqProofs := false) only [rsx, Wd.cs, Hd.cs, fx]
  rw [entK_of (dm_iSnAt c1) (iv_iSnAt c1)]
  try simp (implicitDefEqProofs := false) only [rsx, Wd.cs, Hd.cs, fx]
  rw [atP_seq (p := [1, 1, 1, 1, 1, 1, 1]) (q0 := [1, 1, 1, 1, 1, 1, 1, 0]) (q1 := [1, 1, 1, 1, 1, 1, 1, 1]) (by kernel_rfl) rfl rfl]
  rw [sg_xSeenAt_7]
  try simp (implicitDefEqProofs := false) only [rsx, Wd.cs, Hd.cs, fx]
  rw [entK_of (dm_EqRm cq) (iv_EqRm cq)]
  try simp (implicitDefEqProofs := false) only [rsx, Wd.cs, Hd.cs, fx]
  rw [atP_seq (p := [1, 1, 1, 1, 1, 1, 1, 1]) (q0 := [1, 1, 1, 1, 1, 1, 1, 1, 0]) (q1 := [1, 1, 1, 1, 1, 1, 1, 1, 1]) (by kernel_rfl) rfl rfl]
  rw [sg_xSeenAt_8]
  try simp (implicitDefEqProofs := false) only [rsx, Wd.cs, Hd.cs, fx]
  rw [entK_of (dm_ToWd g0) (iv_ToWd g0)]
  try simp (implicitDefEqProofs := false) only [rsx, Wd.cs, Hd.cs, fx]
  rw [entK_of (dm_EqWd c2) (iv_EqWd c2)]
  try simp (implicitDefEqProofs := false) only [rsx, Wd.cs, Hd.cs, fx]
  rw [atP_seq (p := [1, 1, 1, 1, 1, 1, 1, 1, 1]) (q0 := [1, 1, 1, 1, 1, 1, 1, 1, 1, 0]) (q1 := [1, 1, 1, 1, 1, 1, 1, 1, 1, 1]) (by kernel_rfl) rfl rfl]
  rw [sg_xSeenAt_9]
  try simp (implicitDefEqProofs := false) only [rsx, Wd.cs, Hd.cs, fx]
  rw [atP_seq (p := [1, 1, 1, 1, 1, 1, 1, 1, 1, 1]) (q0 := [1, 1, 1, 1, 1, 1, 1, 1, 1, 1, 0]) (q1 := [1, 1, 1, 1, 1, 1, 1, 1, 1, 1, 1]) (by kernel_rfl) rfl rfl]
  rw [sg_xSeenAt_10]
  try simp (implicitDefEqProofs := false) only [rsx, Wd.cs, Hd.cs, fx]
  rw [entK_of (dm_mkLB hk0) (iv_mkLB hk0)]
  try simp (implicitDefEqProofs := false) only [rsx, Wd.cs, Hd.cs, fx]
  rw [entK_of (dm_mkLI hk1) (iv_mkLI hk1)]
  try simp (implicitDefEqProofs := false) only [rsx, Wd.cs, Hd.cs, fx]
  rw [entK_of (dm_mkLI hk2) (iv_mkLI hk2)]
  try simp (implicitDefEqProofs := false) only [rsx, Wd.cs, Hd.cs, fx]
  rw [entK_of (dm_mkNdS hk3) (iv_mkNdS hk3)]
  try simp (implicitDefEqProofs := false) only [rsx, Wd.cs, Hd.cs, fx]
  rw [entK_of (dm_mkWsS hk4) (iv_mkWsS hk4)]
  try simp (implicitDefEqProofs := false) only [rsx, Wd.cs, Hd.cs, fx]
  rw [entK_of (dm_mkLI hk5) (iv_mkLI hk5)]
  try simp (implicitDefEqProofs := false) only [rsx, Wd.cs, Hd.cs, fx]
  rw [atP_seq (p := [1, 1, 1, 1, 1, 1, 1, 1, 1, 1, 1]) (q0 := [1, 1, 1, 1, 1, 1, 1, 1, 1, 1, 1, 0]) (q1 := [1, 1, 1, 1, 1, 1, 1, 1, 1, 1, 1, 1]) (by kernel_rfl) rfl rfl]
  rw [sg_xSeenAt_11]
  try simp (implicitDefEqProofs := false) only [rsx, Wd.cs, Hd.cs, fx]
  rw [entK_of (dm_EqRm cq) (iv_EqRm cq)]
  try simp (implicitDefEqProofs := false) only [rsx, Wd.cs, Hd.cs, fx]
  rw [atP_seq (p := [1, 1, 1, 1, 1, 1, 1, 1, 1, 1, 1, 1]) (q0 := [1, 1, 1, 1, 1, 1, 1, 1, 1, 1, 1, 1, 0]) (q1 := [1, 1, 1, 1, 1, 1, 1, 1, 1, 1, 1, 1, 1]) (by kernel_rfl) rfl rfl]
  rw [sg_xSeenAt_12]
  try simp (implicitDefEqProofs := false) only [rsx, Wd.cs, Hd.cs, fx]
  rw [atP_seq (p := [1, 1, 1, 1, 1, 1, 1, 1, 1, 1, 1, 1, 1]) (q0 := [1, 1, 1, 1, 1, 1, 1, 1, 1, 1, 1, 1, 1, 0]) (q1 := [1, 1, 1, 1, 1, 1, 1, 1, 1, 1, 1, 1, 1, 1]) (by kernel_rfl) rfl rfl]
  rw [sg_xSeenAt_13]
  try simp (implicitDefEqProofs := false) only [rsx, Wd.cs, Hd.cs, fx]
  rw [entK_of (dm_mkHdS mh0) (iv_mkHdS mh0)]
  try simp (implicitDefEqProofs := false) only [rsx, Wd.cs, Hd.cs, fx]
  rw [entK_of (dm_mkSfS mh1) (iv_mkSfS mh1)]
  try simp (implicitDefEqProofs := false) only [rsx, Wd.cs, Hd.cs, fx]
  rw [entK_of (dm_mkLI mh2) (iv_mkLI mh2)]
  try simp (implicitDefEqProofs := false) only [rsx, Wd.cs, Hd.cs, fx]
  rw [atP_seq (p := [1, 1, 1, 1, 1, 1, 1, 1, 1, 1, 1, 1, 1, 1]) (q0 := [1, 1, 1, 1, 1, 1, 1, 1, 1, 1, 1, 1, 1, 1, 0]) (q1 := [1, 1, 1, 1, 1, 1, 1, 1, 1, 1, 1, 1, 1, 1, 1]) (by kernel_rfl) rfl rfl]
  rw [sg_xSeenAt_14]
  try simp (implicitDefEqProofs := false) only [rsx, Wd.cs, Hd.cs, fx]
  rw [atP_seq (p := [1, 1, 1, 1, 1, 1, 1, 1, 1, 1, 1, 1, 1, 1, 1]) (q0 := [1, 1, 1, 1, 1, 1, 1, 1, 1, 1, 1, 1, 1, 1, 1, 0]) (q1 := [1, 1, 1, 1, 1, 1, 1, 1, 1, 1, 1, 1, 1, 1, 1, 1]) (by kernel_rfl) rfl rfl]
  rw [sg_xSeenAt_15]
  try simp (implicitDefEqProofs := false) only [rsx, Wd.cs, Hd.cs, fx]
  rw [entK_of dm_hdRm iv_hdRm]
  try simp (implicitDefEqProofs := false) only [rsx, Wd.cs, Hd.cs, fx]
  rw [atP_seq (p := [1, 1, 1, 1, 1, 1, 1, 1, 1, 1, 1, 1, 1, 1, 1, 1]) (q0 := [1, 1, 1, 1, 1, 1, 1, 1, 1, 1, 1, 1, 1, 1, 1, 1, 0]) (q1 := [1, 1, 1, 1, 1, 1, 1, 1, 1, 1, 1, 1, 1, 1, 1, 1, 1]) (by kernel_rfl) rfl rfl]
  rw [sg_xSeenAt_16]
  try simp (implicitDefEqProofs := false) only [rsx, Wd.cs, Hd.cs, fx]
  rw [atP_seq (p := [1, 1, 1, 1, 1, 1, 1, 1, 1, 1, 1, 1, 1, 1, 1, 1, 1]) (q0 := [1, 1, 1, 1, 1, 1, 1, 1, 1, 1, 1, 1, 1, 1, 1, 1, 1, 0]) (q1 := [1, 1, 1, 1, 1, 1, 1, 1, 1, 1, 1, 1, 1, 1, 1, 1, 1, 1]) (by kernel_rfl) rfl rfl]
  rw [sg_xSeenAt_17]
  try simp (implicitDefEqProofs := false) only [rsx, Wd.cs, Hd.cs, fx]
  rw [atP_seq (p := [1, 1, 1, 1, 1, 1, 1, 1, 1, 1, 1, 1, 1, 1, 1, 1, 1, 1]) (q0 := [1, 1, 1, 1, 1, 1, 1, 1, 1, 1, 1, 1, 1, 1, 1, 1, 1, 1, 0]) (q1 := [1, 1, 1, 1, 1, 1, 1, 1, 1, 1, 1, 1, 1, 1, 1, 1, 1, 1, 1]) (by kernel_rfl) rfl rfl]
  rw [sg_xSeenAt_18]
  try simp (implicitDefEqProofs := false) only [rsx, Wd.cs, Hd.cs, fx]
  rw [entK_of (dm_ToWd g0) (iv_ToWd g0)]
  try simp (implicitDefEqProofs := false) only [rsx, Wd.cs, Hd.cs, fx]
  rw [entK_of (dm_iSnAt c1) (iv_iSnAt c1)]
  try simp (implicitDefEqProofs := false) only [rsx, Wd.cs, Hd.cs, fx]
  rw [atP_seq (p := [1, 1, 1, 1, 1, 1, 1, 1, 1, 1, 1, 1, 1, 1, 1, 1, 1, 1, 1]) (q0 := [1, 1, 1, 1, 1, 1, 1, 1, 1, 1, 1, 1, 1, 1, 1, 1, 1, 1, 1, 0]) (q1 := [1, 1, 1, 1, 1, 1, 1, 1, 1, 1, 1, 1, 1, 1, 1, 1, 1, 1, 1, 1]) (by kernel_rfl) rfl rfl]
  rw [sg_xSeenAt_19]
  try simp (implicitDefEqProofs := false) only [rsx, Wd.cs, Hd.cs, fx]
  rw [entK_of (dm_EqRm cq) (iv_EqRm cq)]
  try simp (implicitDefEqProofs := false) only [rsx, Wd.cs, Hd.cs, fx]
  rw [atP_seq (p := [1, 1, 1, 1, 1, 1, 1, 1, 1, 1, 1, 1, 1, 1, 1, 1, 1, 1, 1, 1]) (q0 := [1, 1, 1, 1, 1, 1, 1, 1, 1, 1, 1, 1, 1, 1, 1, 1, 1, 1, 1, 1, 0]) (q1 := [1, 1, 1, 1, 1, 1, 1, 1, 1, 1, 1, 1, 1, 1, 1, 1, 1, 1, 1, 1, 1]) (by kernel_rfl) rfl rfl]
  rw [sg_xSeenAt_20]
  try simp (implicitDefEqProofs := false) only [rsx, Wd.cs, Hd.cs, fx]
  rw [atP_seq (p := [1, 1, 1, 1, 1, 1, 1, 1, 1, 1, 1, 1, 1, 1, 1, 1, 1, 1, 1, 1, 1]) (q0 := [1, 1, 1, 1, 1, 1, 1, 1, 1, 1, 1, 1, 1, 1, 1, 1, 1, 1, 1, 1, 1, 0]) (q1 := [1, 1, 1, 1, 1, 1, 1, 1, 1, 1, 1, 1, 1, 1, 1, 1, 1, 1, 1, 1, 1, 1]) (by kernel_rfl) rfl rfl]
  rw [sg_xSeenAt_21]
  try simp (implicitDefEqProofs := false) only [rsx, Wd.cs, Hd.cs, fx]
  rw [entK_of dm_hdRm iv_hdRm]
  try simp (implicitDefEqProofs := false) only [rsx, Wd.cs, Hd.cs, fx]
  rw [atP_seq (p := [1, 1, 1, 1, 1, 1, 1, 1, 1, 1, 1, 1, 1, 1, 1, 1, 1, 1, 1, 1, 1, 1]) (q0 := [1, 1, 1, 1, 1, 1, 1, 1, 1, 1, 1, 1, 1, 1, 1, 1, 1, 1, 1, 1, 1, 1, 0]) (q1 := [1, 1, 1, 1, 1, 1, 1, 1, 1, 1, 1, 1, 1, 1, 1, 1, 1, 1, 1, 1, 1, 1, 1]) (by kernel_rfl) rfl rfl]
  rw [sg_xSeenAt_22]
  try simp (implicitDefEqProofs := false) only [rsx, Wd.cs, Hd.cs, fx]
  rw [atP_seq (p := [1, 1, 1, 1, 1, 1, 1, 1, 1, 1, 1, 1, 1, 1, 1, 1, 1, 1, 1, 1, 1, 1, 1]) (q0 := [1, 1, 1, 1, 1, 1, 1, 1, 1, 1, 1, 1, 1, 1, 1, 1, 1, 1, 1, 1, 1, 1, 1, 0]) (q1 := [1, 1, 1, 1, 1, 1, 1, 1, 1, 1, 1, 1, 1, 1, 1, 1, 1, 1, 1, 1, 1, 1, 1, 1]) (by kernel_rfl) rfl rfl]
  rw [sg_xSeenAt_23]
  try simp (implicitDefEqProofs := false) only [rsx, Wd.cs, Hd.cs, fx]
  rw [atP_seq (p := [1, 1, 1, 1, 1, 1, 1, 1, 1, 1, 1, 1, 1, 1, 1, 1, 1, 1, 1, 1, 1, 1, 1, 1]) (q0 := [1, 1, 1, 1, 1, 1, 1, 1, 1, 1, 1, 1, 1, 1, 1, 1, 1, 1, 1, 1, 1, 1, 1, 1, 0]) (q1 := [1, 1, 1, 1, 1, 1, 1, 1, 1, 1, 1, 1, 1, 1, 1, 1, 1, 1, 1, 1, 1, 1, 1, 1, 1]) (by kernel_rfl) rfl rfl]
  rw [sg_xSeenAt_24]
  try simp (implicitDefEqProofs := false) only [rsx, Wd.cs, Hd.cs, fx]
  rw [sg_xSeenAt_25]
  try simp (implicitDefEqProofs := false) only [rsx, Wd.cs, Hd.cs, fx]
  rfl
theorem sd_xSeenAt (w : Wd) (h : Hd) (hw : z_Wd w) (hh : z_Hd h) (hu : ndx w.l) (hv : upI w.l) (hi : inI h.slot) : Sound prog i_xSeenAt [aR w.cs, aR h.cs] (erB 2 true).1 (erB 2 true).2 :=
  body_sound (φ := (tabS [(i_SzWd, e_SzWd), (i_ToWd, e_ToWd), (i_toHd, e_toHd), (i_sSnAt, e_sSnAt), (i_iSnAt, e_iSnAt), (i_EqRm, e_EqRm), (i_EqWd, e_EqWd), (i_mkWd, e_mkWd), (i_mkRm, e_mkRm), (i_hdRm, e_hdRm)])) (tabS_cons s_SzWd (tabS_cons s_ToWd (tabS_cons s_toHd (tabS_cons s_sSnAt (tabS_cons s_iSnAt (tabS_cons s_EqRm (tabS_cons s_EqWd (tabS_cons s_mkWd (tabS_cons s_mkRm (tabS_cons s_hdRm tabS_nil)))))))))) mixed (kp := kp_xSeenAt) (n := 0) func6 (c := bodyOf F_xSeenAt) (by kernel_rfl) (body_xSeenAt w h hw hh hu hv hi 0) (name_ok (by kernel_rfl))
end Go.Mach.F
end
