/- Lemmas and definitions of the proof (Qh). Conditions: none. -/
import Derived.Test.YtkbhcdenfigpoaaZ4
set_option linter.all false
section
set_option maxRecDepth 100000
set_option maxHeartbeats 4000000
namespace Go.Mach.F
open Go Go.Mach Go.Proofs.Try
def i_xEagerAlloc : Nat := 14
noncomputable abbrev F_xEagerAlloc : Func := f14
def kp_xEagerAlloc : List (Nat × List Nat) := [(0, [8, 12, 16, 20, 21, 24, 25, 48, 49, 60, 61, 108, 140, 144, 160, 188, 192, 220, 224, 228, 280, 284, 288, 292, 304, 308, 312, 428, 432, 436]), (1, [8, 12, 16, 20, 21, 24, 25, 44, 48, 49, 60, 61, 108, 140, 144, 160, 188, 192, 220, 224, 228, 280, 284, 288, 292, 304, 308, 312, 428, 432, 436]), (2, [8, 12, 16, 20, 21, 24, 25, 44, 48, 49, 60, 61, 108, 140, 144, 160, 188, 192, 220, 224, 228, 280, 284, 288, 292, 304, 308, 312, 428, 432, 436]), (3, [8, 12, 16, 20, 21, 24, 25, 48, 49, 60, 61, 104, 108, 140, 144, 160, 188, 192, 220, 224, 228, 280, 284, 288, 292, 304, 308, 312, 428, 432, 436]), (4, [40]), (5, [8, 12, 16, 20, 21, 24, 25, 48, 49, 52, 60, 61, 108, 140, 144, 160, 188, 192, 220, 224, 228, 280, 284, 288, 292, 304, 308, 312, 428, 432, 436]), (6, [8, 12, 16, 20, 21, 24, 25, 48, 49, 52, 56, 57, 60, 61, 108, 140, 144, 156, 160, 188, 192, 220, 224, 228, 280, 284, 288, 292, 304, 308, 312, 428, 432, 436]), (7, [8, 12, 16, 20, 21, 24, 25, 48, 49, 52, 56, 57, 60, 61, 64, 108, 140, 144, 156, 160, 188, 192, 220, 224, 228, 280, 284, 288, 292, 304, 308, 312, 428, 432, 436]), (8, [8, 12, 16, 20, 21, 24, 25, 48, 49, 52, 56, 57, 60, 61, 64, 108, 140, 144, 156, 160, 188, 192, 232, 280, 284, 288, 292, 304, 308, 312, 428, 432, 436]), (9, [40]), (10, [8, 12, 16, 20, 21, 24, 25, 48, 49, 52, 56, 57, 60, 61, 64, 108, 140, 144, 156, 160, 188, 192, 252, 280, 284, 288, 292, 304, 308, 312, 428, 432, 436]), (11, [40]), (12, [8, 12, 16, 20, 21, 24, 25, 48, 49, 52, 56, 57, 60, 61, 64, 68, 108, 140, 144, 156, 160, 188, 192, 280, 284, 288, 292, 304, 308, 312, 428, 432, 436]), (13, [8, 12, 16, 20, 21, 24, 25, 48, 49, 52, 60, 61, 64, 68, 108, 140, 144, 160, 188, 192, 280, 284, 288, 292, 304, 308, 312, 428, 432, 436]), (14, [8, 12, 16, 20, 21, 24, 25, 48, 49, 52, 60, 61, 108, 140, 144, 160, 188, 192, 316, 428, 432, 436]), (15, [40]), (16, [8, 12, 16, 20, 21, 24, 25, 48, 49, 52, 60, 61, 72, 108, 140, 144, 160, 188, 192, 428, 432, 436]), (17, [8, 12, 16, 20, 21, 24, 25, 48, 49, 52, 60, 61, 72, 108, 140, 144, 160, 188, 192, 428, 432, 436]), (18, [8, 12, 16, 20, 21, 24, 25, 48, 49, 52, 60, 61, 72, 76, 108, 140, 144, 160, 188, 192, 428, 432, 436]), (19, [8, 12, 16, 20, 21, 24, 25, 48, 49, 52, 60, 61, 72, 76, 108, 140, 144, 160, 188, 192, 428, 432, 436]), (20, [8, 12, 16, 20, 21, 24, 25, 48, 49, 52, 60, 61, 72, 76, 108, 140, 144, 160, 188, 192, 348, 428, 432, 436]), (21, [40]), (22, [8, 12, 16, 20, 21, 24, 25, 48, 49, 52, 60, 61, 72, 108, 140, 144, 160, 188, 192, 360, 428, 432, 436]), (23, [40]), (24, [48, 49, 52, 60, 61, 72, 80, 81, 84, 108, 140, 144, 160, 188, 192, 364, 396, 400, 428, 432, 436]), (25, [60, 61, 72, 160, 188, 192, 440]), (26, [40]), (27, [60, 61, 72, 76, 160, 188, 192]), (28, [72, 76]), (29, [72, 76, 460]), (30, [40]), (31, [472]), (32, [40]), (33, [40])]
def sq_xEagerAlloc_0 (m : Ml) (h : Hd) (sz : Int) (al : Int) (fr : Bool) : St := initA 119 0 [aR m.cs, aR h.cs, aI sz, aI al, aB fr]
def ce_xEagerAlloc_0 (m : Ml) : Nat × Ct := (21, ⟨z0, [(true, [.tr true (T.int IntKind.i64 m.c.1), .tr true (T.int IntKind.i64 m.c.2), .tr true (T.int IntKind.i64 m.c.3), .tr true (T.int IntKind.i64 m.c.4), .tr true (T.int IntKind.i64 m.c.5), .tr true (T.int IntKind.i64 m.c.6), .tr false (eL 11 Rm.cs m.2), .tr false (eL 1 rowI m.3)])]⟩)
def sq_xEagerAlloc_1 (m : Ml) (h : Hd) (sz : Int) (al : Int) (fr : Bool) : St := [(8, ⟨z0, [(false, [.tr true (T.int IntKind.i64 sz)])]⟩), (12, ⟨z0, [(false, [.tr true (T.int IntKind.i64 al)])]⟩), (16, ⟨z0, [(false, [.tr true (T.bool fr)])]⟩), (20, ⟨z0, [(false, [(C.pt (Pt.ptr 21 0 [] 8 0 0))])]⟩), (ce_xEagerAlloc_0 m), (24, ⟨z0, [(false, [(C.pt (Pt.ptr 25 0 [] 2 0 0))])]⟩), (25, ⟨z0, [(true, [.tr true (T.int IntKind.i64 h.1), .tr true (T.int IntKind.i64 h.2)])]⟩)]
theorem sg_xEagerAlloc_0 (m : Ml) (h : Hd) (sz : Int) (al : Int) (fr : Bool) (n : Nat) (K : Ex → St → Res) : atP prog (tabS [(i_SzMl, e_SzMl), (i_ToMl, e_ToMl), (i_toHd, e_toHd), (i_sEagerAlloc, e_sEagerAlloc), (i_iEagerAlloc, e_iEagerAlloc), (i_EqMl, e_EqMl), (i_mkMl, e_mkMl), (i_hdMl, e_hdMl)]) kp_xEagerAlloc F_xEagerAlloc [0] n (sq_xEagerAlloc_0 m h sz al fr) K = (
 K .normal (sq_xEagerAlloc_1 m h sz al fr)) := by kernel_rfl
def sq_xEagerAlloc_2 (m : Ml) (h : Hd) (sz : Int) (al : Int) (fr : Bool) : St := [(8, ⟨z0, [(false, [.tr true (T.int IntKind.i64 sz)])]⟩), (12, ⟨z0, [(false, [.tr true (T.int IntKind.i64 al)])]⟩), (16, ⟨z0, [(false, [.tr true (T.bool fr)])]⟩), (20, ⟨z0, [(false, [(C.pt (Pt.ptr 21 0 [] 8 0 0))])]⟩), (ce_xEagerAlloc_0 m), (24, ⟨z0, [(false, [(C.pt (Pt.ptr 25 0 [] 2 0 0))])]⟩), (25, ⟨z0, [(true, [.tr true (T.int IntKind.i64 h.1), .tr true (T.int IntKind.i64 h.2)])]⟩), (44, ⟨z0, [(false, [.tr true (T.int IntKind.i64 1048576)])]⟩)]
theorem sg_xEagerAlloc_1 (m : Ml) (h : Hd) (sz : Int) (al : Int) (fr : Bool) (n : Nat) (K : Ex → St → Res) : atP prog (tabS [(i_SzMl, e_SzMl), (i_ToMl, e_ToMl), (i_toHd, e_toHd), (i_sEagerAlloc, e_sEagerAlloc), (i_iEagerAlloc, e_iEagerAlloc), (i_EqMl, e_EqMl), (i_mkMl, e_mkMl), (i_hdMl, e_hdMl)]) kp_xEagerAlloc F_xEagerAlloc [1, 0] n (sq_xEagerAlloc_1 m h sz al fr) K = (
 K .normal (sq_xEagerAlloc_2 m h sz al fr)) := by kernel_rfl
def sq_xEagerAlloc_3 (m : Ml) (h : Hd) (sz : Int) (al : Int) (fr : Bool) (r1 : Int) : St := [(8, ⟨z0, [(false, [.tr true (T.int IntKind.i64 sz)])]⟩), (12, ⟨z0, [(false, [.tr true (T.int IntKind.i64 al)])]⟩), (16, ⟨z0, [(false, [.tr true (T.bool fr)])]⟩), (20, ⟨z0, [(false, [(C.pt (Pt.ptr 21 0 [] 8 0 0))])]⟩), (ce_xEagerAlloc_0 m), (24, ⟨z0, [(false, [(C.pt (Pt.ptr 25 0 [] 2 0 0))])]⟩), (25, ⟨z0, [(true, [.tr true (T.int IntKind.i64 h.1), .tr true (T.int IntKind.i64 h.2)])]⟩), (44, ⟨z0, [(false, [.tr true (T.int IntKind.i64 r1)])]⟩)]
theorem sg_xEagerAlloc_2 (m : Ml) (h : Hd) (sz : Int) (al : Int) (fr : Bool) (n : Nat) (K : Ex → St → Res) : atP prog (tabS [(i_SzMl, e_SzMl), (i_ToMl, e_ToMl), (i_toHd, e_toHd), (i_sEagerAlloc, e_sEagerAlloc), (i_iEagerAlloc, e_iEagerAlloc), (i_EqMl, e_EqMl), (i_mkMl, e_mkMl), (i_hdMl, e_hdMl)]) kp_xEagerAlloc F_xEagerAlloc [1, 1, 0] n (sq_xEagerAlloc_2 m h sz al fr) K = (
 entK ok_SzMl ea_SzMl (f_SzMl) [(0, true,
    [C.tr false (T.int IntKind.i64 m.c.1), C.tr false (T.int IntKind.i64 m.c.2),
      C.tr false (T.int IntKind.i64 m.c.3), C.tr false (T.int IntKind.i64 m.c.4),
      C.tr false (T.int IntKind.i64 m.c.5), C.tr false (T.int IntKind.i64 m.c.6), C.tr false (eL 11 Rm.cs m.2),
      C.tr false (eL 1 rowI m.3)]),
  (0, false, [C.tr false (T.int IntKind.i64 1048576)])] fun (r1 : Int) =>
 K .normal (sq_xEagerAlloc_3 m h sz al fr r1)) := by kernel_rfl
def sq_xEagerAlloc_4 (m : Ml) (h : Hd) (sz : Int) (al : Int) (fr : Bool) : St := [(8, ⟨z0, [(false, [.tr true (T.int IntKind.i64 sz)])]⟩), (12, ⟨z0, [(false, [.tr true (T.int IntKind.i64 al)])]⟩), (16, ⟨z0, [(false, [.tr true (T.bool fr)])]⟩), (20, ⟨z0, [(false, [(C.pt (Pt.ptr 21 0 [] 8 0 0))])]⟩), (ce_xEagerAlloc_0 m), (24, ⟨z0, [(false, [(C.pt (Pt.ptr 25 0 [] 2 0 0))])]⟩), (25, ⟨z0, [(true, [.tr true (T.int IntKind.i64 h.1), .tr true (T.int IntKind.i64 h.2)])]⟩), (104, ⟨z0, []⟩)]
theorem sg_xEagerAlloc_3 (m : Ml) (h : Hd) (sz : Int) (al : Int) (fr : Bool) (r1 : Int) (n : Nat) (K : Ex → St → Res) : atP prog (tabS [(i_SzMl, e_SzMl), (i_ToMl, e_ToMl), (i_toHd, e_toHd), (i_sEagerAlloc, e_sEagerAlloc), (i_iEagerAlloc, e_iEagerAlloc), (i_EqMl, e_EqMl), (i_mkMl, e_mkMl), (i_hdMl, e_hdMl)]) kp_xEagerAlloc F_xEagerAlloc [1, 1, 1, 0] n (sq_xEagerAlloc_3 m h sz al fr r1) K = (
 bif decide (r1 < 0) then
  K .ret [(40, ⟨z0, [(false, [.tr true (T.bool true)])]⟩)]
 else
 K .normal (sq_xEagerAlloc_4 m h sz al fr)) := by kernel_rfl
def ce_xEagerAlloc_1 (r3 : Ml × Int) : Nat × Ct := (49, ⟨z0, [(true, [.tr true (T.int IntKind.i64 r3.fst.c.1), .tr true (T.int IntKind.i64 r3.fst.c.2), .tr true (T.int IntKind.i64 r3.fst.c.3), .tr true (T.int IntKind.i64 r3.fst.c.4), .tr true (T.int IntKind.i64 r3.fst.c.5), .tr true (T.int IntKind.i64 r3.fst.c.6), .tr true (.arr (11) (r3.fst.2.length) ((eL 11 Rm.cs r3.fst.2).fn)), .tr true (.arr (1) (r3.fst.3.length) ((eL 1 rowI r3.fst.3).fn))])]⟩)
def ce_xEagerAlloc_2 (r3 : Ml × Int) : Nat × Ct := (108, ⟨z0, [(true, [.tr true (T.int IntKind.i64 r3.fst.c.1), .tr true (T.int IntKind.i64 r3.fst.c.2), .tr true (T.int IntKind.i64 r3.fst.c.3), .tr true (T.int IntKind.i64 r3.fst.c.4), .tr true (T.int IntKind.i64 r3.fst.c.5), .tr true (T.int IntKind.i64 r3.fst.c.6), (C.dead), (C.dead)]), (false, [.tr true (T.int IntKind.i64 r3.2)])]⟩)
def ce_xEagerAlloc_3 (r3 : Ml × Int) : Nat × Ct := (140, ⟨z0, [(true, [.tr true (T.int IntKind.i64 r3.fst.c.1), .tr true (T.int IntKind.i64 r3.fst.c.2), .tr true (T.int IntKind.i64 r3.fst.c.3), .tr true (T.int IntKind.i64 r3.fst.c.4), .tr true (T.int IntKind.i64 r3.fst.c.5), .tr true (T.int IntKind.i64 r3.fst.c.6), .tr true (T.hole), .tr true (T.hole)]), (false, [.tr true (T.int IntKind.i64 r3.2)])]⟩)
def ce_xEagerAlloc_4 (r3 : Ml × Int) : Nat × Ct := (144, ⟨z0, [(true, [.tr true (T.int IntKind.i64 r3.fst.c.1), .tr true (T.int IntKind.i64 r3.fst.c.2), .tr true (T.int IntKind.i64 r3.fst.c.3), .tr true (T.int IntKind.i64 r3.fst.c.4), .tr true (T.int IntKind.i64 r3.fst.c.5), .tr true (T.int IntKind.i64 r3.fst.c.6), (C.dead), (C.dead)])]⟩)
def sq_xEagerAlloc_5 (m : Ml) (h : Hd) (sz : Int) (al : Int) (fr : Bool) (r3 : Ml × Int) : St := [(8, ⟨z0, [(false, [.tr true (T.int IntKind.i64 sz)])]⟩), (12, ⟨z0, [(false, [.tr true (T.int IntKind.i64 al)])]⟩), (16, ⟨z0, [(false, [.tr true (T.bool fr)])]⟩), (20, ⟨z0, [(false, [(C.pt (Pt.ptr 21 0 [] 8 0 0))])]⟩), (ce_xEagerAlloc_0 m), (24, ⟨z0, [(false, [(C.pt (Pt.ptr 25 0 [] 2 0 0))])]⟩), (25, ⟨z0, [(true, [.tr true (T.int IntKind.i64 h.1), .tr true (T.int IntKind.i64 h.2)])]⟩), (48, ⟨z0, [(false, [(C.pt (Pt.ptr 49 0 [] 8 0 0))])]⟩), (ce_xEagerAlloc_1 r3), (52, ⟨z0, [(false, [.tr true (T.int IntKind.i64 r3.2)])]⟩), (ce_xEagerAlloc_2 r3), (ce_xEagerAlloc_3 r3), (ce_xEagerAlloc_4 r3)]
theorem sg_xEagerAlloc_4 (m : Ml) (h : Hd) (sz : Int) (al : Int) (fr : Bool) (n : Nat) (K : Ex → St → Res) : atP prog (tabS [(i_SzMl, e_SzMl), (i_ToMl, e_ToMl), (i_toHd, e_toHd), (i_sEagerAlloc, e_sEagerAlloc), (i_iEagerAlloc, e_iEagerAlloc), (i_EqMl, e_EqMl), (i_mkMl, e_mkMl), (i_hdMl, e_hdMl)]) kp_xEagerAlloc F_xEagerAlloc [1, 1, 1, 1, 0] n (sq_xEagerAlloc_4 m h sz al fr) K = (
 entK ok_ToMl ea_ToMl (f_ToMl) [(0, true,
    [C.tr false (T.int IntKind.i64 m.c.1), C.tr false (T.int IntKind.i64 m.c.2),
      C.tr false (T.int IntKind.i64 m.c.3), C.tr false (T.int IntKind.i64 m.c.4),
      C.tr false (T.int IntKind.i64 m.c.5), C.tr false (T.int IntKind.i64 m.c.6), C.tr false (eL 11 Rm.cs m.2),
      C.tr false (eL 1 rowI m.3)])] fun (r2 : Ml) =>
 gd ((0 + r2.2.length).ble r2.2.length) <|
 gd ((0 + r2.3.length).ble r2.3.length) <|
 entK ok_sEagerAlloc ea_sEagerAlloc (f_sEagerAlloc) [(0, true,
    [C.tr false (T.int IntKind.i64 r2.c.1), C.tr false (T.int IntKind.i64 r2.c.2),
      C.tr false (T.int IntKind.i64 r2.c.3), C.tr false (T.int IntKind.i64 r2.c.4),
      C.tr false (T.int IntKind.i64 r2.c.5), C.tr false (T.int IntKind.i64 r2.c.6),
      C.tr false (T.arr 11 r2.2.length (cutT 0 r2.2.length (eL 11 Rm.cs r2.2).fn)),
      C.tr false (T.arr 1 r2.3.length (cutT 0 r2.3.length (eL 1 rowI r2.3).fn))]),
  (0, true, [C.tr false (T.int IntKind.i64 h.1), C.tr false (T.int IntKind.i64 h.2)]),
  (0, false, [C.tr false (T.int IntKind.i64 sz)]), (0, false, [C.tr false (T.int IntKind.i64 al)]),
  (0, false, [C.tr false (T.bool fr)])] fun (r3 : Ml × Int) =>
 gd (r3.fst.2.length.ble r3.fst.2.length && true) <|
 gd (r3.fst.3.length.ble r3.fst.3.length && true) <|
 K .normal (sq_xEagerAlloc_5 m h sz al fr r3)) := by kernel_rfl
def ce_xEagerAlloc_5 (r4 : Ml) : Nat × Ct := (57, ⟨z0, [(true, [.tr true (T.int IntKind.i64 r4.c.1), .tr true (T.int IntKind.i64 r4.c.2), .tr true (T.int IntKind.i64 r4.c.3), .tr true (T.int IntKind.i64 r4.c.4), .tr true (T.int IntKind.i64 r4.c.5), .tr true (T.int IntKind.i64 r4.c.6), .tr true (.arr (11) (r4.2.length) ((eL 11 Rm.cs r4.2).fn)), .tr true (.arr (1) (r4.3.length) ((eL 1 rowI r4.3).fn))])]⟩)
def ce_xEagerAlloc_6 (r4 : Ml) : Nat × Ct := (156, ⟨z0, [(true, [.tr true (T.int IntKind.i64 r4.c.1), .tr true (T.int IntKind.i64 r4.c.2), .tr true (T.int IntKind.i64 r4.c.3), .tr true (T.int IntKind.i64 r4.c.4), .tr true (T.int IntKind.i64 r4.c.5), .tr true (T.int IntKind.i64 r4.c.6), .tr true (T.hole), .tr true (T.hole)])]⟩)
def sq_xEagerAlloc_6 (m : Ml) (h : Hd) (sz : Int) (al : Int) (fr : Bool) (r3 : Ml × Int) (r4 : Ml) : St := [(8, ⟨z0, [(false, [.tr true (T.int IntKind.i64 sz)])]⟩), (12, ⟨z0, [(false, [.tr true (T.int IntKind.i64 al)])]⟩), (16, ⟨z0, [(false, [.tr true (T.bool fr)])]⟩), (20, ⟨z0, [(false, [(C.pt (Pt.ptr 21 0 [] 8 0 0))])]⟩), (ce_xEagerAlloc_0 m), (24, ⟨z0, [(false, [(C.pt (Pt.ptr 25 0 [] 2 0 0))])]⟩), (25, ⟨z0, [(true, [.tr true (T.int IntKind.i64 h.1), .tr true (T.int IntKind.i64 h.2)])]⟩), (48, ⟨z0, [(false, [(C.pt (Pt.ptr 49 0 [] 8 0 0))])]⟩), (ce_xEagerAlloc_1 r3), (52, ⟨z0, [(false, [.tr true (T.int IntKind.i64 r3.2)])]⟩), (56, ⟨z0, [(false, [(C.pt (Pt.ptr 57 0 [] 8 0 0))])]⟩), (ce_xEagerAlloc_5 r4), (ce_xEagerAlloc_2 r3), (ce_xEagerAlloc_3 r3), (ce_xEagerAlloc_4 r3), (ce_xEagerAlloc_6 r4)]
theorem sg_xEagerAlloc_5 (m : Ml) (h : Hd) (sz : Int) (al : Int) (fr : Bool) (r3 : Ml × Int) (n : Nat) (K : Ex → St → Res) : atP prog (tabS [(i_SzMl, e_SzMl), (i_ToMl, e_ToMl), (i_toHd, e_toHd), (i_sEagerAlloc, e_sEagerAlloc), (i_iEagerAlloc, e_iEagerAlloc), (i_EqMl, e_EqMl), (i_mkMl, e_mkMl), (i_hdMl, e_hdMl)]) kp_xEagerAlloc F_xEagerAlloc [1, 1, 1, 1, 1, 0] n (sq_xEagerAlloc_5 m h sz al fr r3) K = (
 entK ok_ToMl ea_ToMl (f_ToMl) [(0, true,
    [C.tr false (T.int IntKind.i64 m.c.1), C.tr false (T.int IntKind.i64 m.c.2),
      C.tr false (T.int IntKind.i64 m.c.3), C.tr false (T.int IntKind.i64 m.c.4),
      C.tr false (T.int IntKind.i64 m.c.5), C.tr false (T.int IntKind.i64 m.c.6), C.tr false (eL 11 Rm.cs m.2),
      C.tr false (eL 1 rowI m.3)])] fun (r4 : Ml) =>
 gd (r4.2.length.ble r4.2.length && true) <|
 gd (r4.3.length.ble r4.3.length && true) <|
 K .normal (sq_xEagerAlloc_6 m h sz al fr r3 r4)) := by kernel_rfl
def ce_xEagerAlloc_7 (r5 : Ml × Int) : Nat × Ct := (61, ⟨z0, [(true, [.tr true (T.int IntKind.i64 r5.fst.c.1), .tr true (T.int IntKind.i64 r5.fst.c.2), .tr true (T.int IntKind.i64 r5.fst.c.3), .tr true (T.int IntKind.i64 r5.fst.c.4), .tr true (T.int IntKind.i64 r5.fst.c.5), .tr true (T.int IntKind.i64 r5.fst.c.6), .tr true (.arr (11) (r5.fst.2.length) ((eL 11 Rm.cs r5.fst.2).fn)), .tr true (.arr (1) (r5.fst.3.length) ((eL 1 rowI r5.fst.3).fn))])]⟩)
def ce_xEagerAlloc_8 (r5 : Ml × Int) : Nat × Ct := (160, ⟨z0, [(true, [.tr true (T.int IntKind.i64 r5.fst.c.1), .tr true (T.int IntKind.i64 r5.fst.c.2), .tr true (T.int IntKind.i64 r5.fst.c.3), .tr true (T.int IntKind.i64 r5.fst.c.4), .tr true (T.int IntKind.i64 r5.fst.c.5), .tr true (T.int IntKind.i64 r5.fst.c.6), (C.dead), (C.dead)]), (false, [.tr true (T.int IntKind.i64 r5.2)])]⟩)
def ce_xEagerAlloc_9 (r5 : Ml × Int) : Nat × Ct := (188, ⟨z0, [(true, [.tr true (T.int IntKind.i64 r5.fst.c.1), .tr true (T.int IntKind.i64 r5.fst.c.2), .tr true (T.int IntKind.i64 r5.fst.c.3), .tr true (T.int IntKind.i64 r5.fst.c.4), .tr true (T.int IntKind.i64 r5.fst.c.5), .tr true (T.int IntKind.i64 r5.fst.c.6), .tr true (T.hole), .tr true (T.hole)]), (false, [.tr true (T.int IntKind.i64 r5.2)])]⟩)
def ce_xEagerAlloc_10 (r5 : Ml × Int) : Nat × Ct := (192, ⟨z0, [(true, [.tr true (T.int IntKind.i64 r5.fst.c.1), .tr true (T.int IntKind.i64 r5.fst.c.2), .tr true (T.int IntKind.i64 r5.fst.c.3), .tr true (T.int IntKind.i64 r5.fst.c.4), .tr true (T.int IntKind.i64 r5.fst.c.5), .tr true (T.int IntKind.i64 r5.fst.c.6), (C.dead), (C.dead)])]⟩)
def sq_xEagerAlloc_7 (m : Ml) (h : Hd) (sz : Int) (al : Int) (fr : Bool) (r3 : Ml × Int) (r4 : Ml) (r5 : Ml × Int) : St := [(8, ⟨z0, [(false, [.tr true (T.int IntKind.i64 sz)])]⟩), (12, ⟨z0, [(false, [.tr true (T.int IntKind.i64 al)])]⟩), (16, ⟨z0, [(false, [.tr true (T.bool fr)])]⟩), (20, ⟨z0, [(false, [(C.pt (Pt.ptr 21 0 [] 8 0 0))])]⟩), (ce_xEagerAlloc_0 m), (24, ⟨z0, [(false, [(C.pt (Pt.ptr 25 0 [] 2 0 0))])]⟩), (25, ⟨z0, [(true, [.tr true (T.int IntKind.i64 h.1), .tr true (T.int IntKind.i64 h.2)])]⟩), (48, ⟨z0, [(false, [(C.pt (Pt.ptr 49 0 [] 8 0 0))])]⟩), (ce_xEagerAlloc_1 r3), (52, ⟨z0, [(false, [.tr true (T.int IntKind.i64 r3.2)])]⟩), (56, ⟨z0, [(false, [(C.pt (Pt.ptr 57 0 [] 8 0 0))])]⟩), (ce_xEagerAlloc_5 r4), (60, ⟨z0, [(false, [(C.pt (Pt.ptr 61 0 [] 8 0 0))])]⟩), (ce_xEagerAlloc_7 r5), (64, ⟨z0, [(false, [.tr true (T.int IntKind.i64 r5.2)])]⟩), (ce_xEagerAlloc_2 r3), (ce_xEagerAlloc_3 r3), (ce_xEagerAlloc_4 r3), (ce_xEagerAlloc_6 r4), (ce_xEagerAlloc_8 r5), (ce_xEagerAlloc_9 r5), (ce_xEagerAlloc_10 r5)]
theorem sg_xEagerAlloc_6 (m : Ml) (h : Hd) (sz : Int) (al : Int) (fr : Bool) (r3 : Ml × Int) (r4 : Ml) (n : Nat) (K : Ex → St → Res) : atP prog (tabS [(i_SzMl, e_SzMl), (i_ToMl, e_ToMl), (i_toHd, e_toHd), (i_sEagerAlloc, e_sEagerAlloc), (i_iEagerAlloc, e_iEagerAlloc), (i_EqMl, e_EqMl), (i_mkMl, e_mkMl), (i_hdMl, e_hdMl)]) kp_xEagerAlloc F_xEagerAlloc [1, 1, 1, 1, 1, 1, 0] n (sq_xEagerAlloc_6 m h sz al fr r3 r4) K = (
 gd ((0 + r4.2.length).ble r4.2.length) <|
 gd ((0 + r4.3.length).ble r4.3.length) <|
 entK ok_iEagerAlloc ea_iEagerAlloc (f_iEagerAlloc) [(0, true,
    [C.tr false (T.int IntKind.i64 r4.c.1), C.tr false (T.int IntKind.i64 r4.c.2),
      C.tr false (T.int IntKind.i64 r4.c.3), C.tr false (T.int IntKind.i64 r4.c.4),
      C.tr false (T.int IntKind.i64 r4.c.5), C.tr false (T.int IntKind.i64 r4.c.6),
      C.tr false (T.arr 11 r4.2.length (cutT 0 r4.2.length (eL 11 Rm.cs r4.2).fn)),
      C.tr false (T.arr 1 r4.3.length (cutT 0 r4.3.length (eL 1 rowI r4.3).fn))]),
  (0, true, [C.tr false (T.int IntKind.i64 h.1), C.tr false (T.int IntKind.i64 h.2)]),
  (0, false, [C.tr false (T.int IntKind.i64 sz)]), (0, false, [C.tr false (T.int IntKind.i64 al)]),
  (0, false, [C.tr false (T.bool fr)])] fun (r5 : Ml × Int) =>
 gd (r5.fst.2.length.ble r5.fst.2.length && true) <|
 gd (r5.fst.3.length.ble r5.fst.3.length && true) <|
 K .normal (sq_xEagerAlloc_7 m h sz al fr r3 r4 r5)) := by kernel_rfl
def sq_xEagerAlloc_8 (m : Ml) (h : Hd) (sz : Int) (al : Int) (fr : Bool) (r3 : Ml × Int) (r4 : Ml) (r5 : Ml × Int) : St := [(8, ⟨z0, [(false, [.tr true (T.int IntKind.i64 sz)])]⟩), (12, ⟨z0, [(false, [.tr true (T.int IntKind.i64 al)])]⟩), (16, ⟨z0, [(false, [.tr true (T.bool fr)])]⟩), (20, ⟨z0, [(false, [(C.pt (Pt.ptr 21 0 [] 8 0 0))])]⟩), (ce_xEagerAlloc_0 m), (24, ⟨z0, [(false, [(C.pt (Pt.ptr 25 0 [] 2 0 0))])]⟩), (25, ⟨z0, [(true, [.tr true (T.int IntKind.i64 h.1), .tr true (T.int IntKind.i64 h.2)])]⟩), (48, ⟨z0, [(false, [(C.pt (Pt.ptr 49 0 [] 8 0 0))])]⟩), (ce_xEagerAlloc_1 r3), (52, ⟨z0, [(false, [.tr true (T.int IntKind.i64 r3.2)])]⟩), (56, ⟨z0, [(false, [(C.pt (Pt.ptr 57 0 [] 8 0 0))])]⟩), (ce_xEagerAlloc_5 r4), (60, ⟨z0, [(false, [(C.pt (Pt.ptr 61 0 [] 8 0 0))])]⟩), (ce_xEagerAlloc_7 r5), (64, ⟨z0, [(false, [.tr true (T.int IntKind.i64 r5.2)])]⟩), (ce_xEagerAlloc_2 r3), (ce_xEagerAlloc_3 r3), (ce_xEagerAlloc_4 r3), (ce_xEagerAlloc_6 r4), (ce_xEagerAlloc_8 r5), (ce_xEagerAlloc_9 r5), (ce_xEagerAlloc_10 r5), (232, ⟨z0, []⟩)]
theorem sg_xEagerAlloc_7 (m : Ml) (h : Hd) (sz : Int) (al : Int) (fr : Bool) (r3 : Ml × Int) (r4 : Ml) (r5 : Ml × Int) (n : Nat) (K : Ex → St → Res) : atP prog (tabS [(i_SzMl, e_SzMl), (i_ToMl, e_ToMl), (i_toHd, e_toHd), (i_sEagerAlloc, e_sEagerAlloc), (i_iEagerAlloc, e_iEagerAlloc), (i_EqMl, e_EqMl), (i_mkMl, e_mkMl), (i_hdMl, e_hdMl)]) kp_xEagerAlloc F_xEagerAlloc [1, 1, 1, 1, 1, 1, 1, 0] n (sq_xEagerAlloc_7 m h sz al fr r3 r4 r5) K = (
 gd ((0 + r5.fst.2.length).ble r5.fst.2.length) <|
 gd ((0 + r5.fst.3.length).ble r5.fst.3.length) <|
 gd ((0 + r3.fst.2.length).ble r3.fst.2.length) <|
 gd ((0 + r3.fst.3.length).ble r3.fst.3.length) <|
 entK ok_EqMl ea_EqMl (f_EqMl) [(0, true,
    [C.tr false (T.int IntKind.i64 r5.fst.c.1), C.tr false (T.int IntKind.i64 r5.fst.c.2),
      C.tr false (T.int IntKind.i64 r5.fst.c.3), C.tr false (T.int IntKind.i64 r5.fst.c.4),
      C.tr false (T.int IntKind.i64 r5.fst.c.5), C.tr false (T.int IntKind.i64 r5.fst.c.6),
      C.tr false (T.arr 11 r5.fst.2.length (cutT 0 r5.fst.2.length (eL 11 Rm.cs r5.fst.2).fn)),
      C.tr false (T.arr 1 r5.fst.3.length (cutT 0 r5.fst.3.length (eL 1 rowI r5.fst.3).fn))]),
  (0, true,
    [C.tr false (T.int IntKind.i64 r3.fst.c.1), C.tr false (T.int IntKind.i64 r3.fst.c.2),
      C.tr false (T.int IntKind.i64 r3.fst.c.3), C.tr false (T.int IntKind.i64 r3.fst.c.4),
      C.tr false (T.int IntKind.i64 r3.fst.c.5), C.tr false (T.int IntKind.i64 r3.fst.c.6),
      C.tr false (T.arr 11 r3.fst.2.length (cutT 0 r3.fst.2.length (eL 11 Rm.cs r3.fst.2).fn)),
      C.tr false (T.arr 1 r3.fst.3.length (cutT 0 r3.fst.3.length (eL 1 rowI r3.fst.3).fn))])] fun (r6 : Bool) =>
 bif !r6 then
  K .ret [(40, ⟨z0, [(false, [.tr true (T.bool false)])]⟩)]
 else
 bif r5.2 != r3.2 then
  K .ret [(40, ⟨z0, [(false, [.tr true (T.bool false)])]⟩)]
 else
 K .normal (sq_xEagerAlloc_8 m h sz al fr r3 r4 r5)) := by kernel_rfl
def sq_xEagerAlloc_9 (m : Ml) (h : Hd) (sz : Int) (al : Int) (fr : Bool) (r3 : Ml × Int) (r4 : Ml) (r5 : Ml × Int) : St := [(8, ⟨z0, [(false, [.tr true (T.int IntKind.i64 sz)])]⟩), (12, ⟨z0, [(false, [.tr true (T.int IntKind.i64 al)])]⟩), (16, ⟨z0, [(false, [.tr true (T.bool fr)])]⟩), (20, ⟨z0, [(false, [(C.pt (Pt.ptr 21 0 [] 8 0 0))])]⟩), (ce_xEagerAlloc_0 m), (24, ⟨z0, [(false, [(C.pt (Pt.ptr 25 0 [] 2 0 0))])]⟩), (25, ⟨z0, [(true, [.tr true (T.int IntKind.i64 h.1), .tr true (T.int IntKind.i64 h.2)])]⟩), (48, ⟨z0, [(false, [(C.pt (Pt.ptr 49 0 [] 8 0 0))])]⟩), (ce_xEagerAlloc_1 r3), (52, ⟨z0, [(false, [.tr true (T.int IntKind.i64 r3.2)])]⟩), (56, ⟨z0, [(false, [(C.pt (Pt.ptr 57 0 [] 8 0 0))])]⟩), (ce_xEagerAlloc_5 r4), (60, ⟨z0, [(false, [(C.pt (Pt.ptr 61 0 [] 8 0 0))])]⟩), (ce_xEagerAlloc_7 r5), (64, ⟨z0, [(false, [.tr true (T.int IntKind.i64 r5.2)])]⟩), (ce_xEagerAlloc_2 r3), (ce_xEagerAlloc_3 r3), (ce_xEagerAlloc_4 r3), (ce_xEagerAlloc_6 r4), (ce_xEagerAlloc_8 r5), (ce_xEagerAlloc_9 r5), (ce_xEagerAlloc_10 r5), (252, ⟨z0, []⟩)]
theorem sg_xEagerAlloc_8 (m : Ml) (h : Hd) (sz : Int) (al : Int) (fr : Bool) (r3 : Ml × Int) (r4 : Ml) (r5 : Ml × Int) (n : Nat) (K : Ex → St → Res) : atP prog (tabS [(i_SzMl, e_SzMl), (i_ToMl, e_ToMl), (i_toHd, e_toHd), (i_sEagerAlloc, e_sEagerAlloc), (i_iEagerAlloc, e_iEagerAlloc), (i_EqMl, e_EqMl), (i_mkMl, e_mkMl), (i_hdMl, e_hdMl)]) kp_xEagerAlloc F_xEagerAlloc [1, 1, 1, 1, 1, 1, 1, 1, 0] n (sq_xEagerAlloc_8 m h sz al fr r3 r4 r5) K = (
 entK ok_ToMl ea_ToMl (f_ToMl) [(0, true,
    [C.tr false (T.int IntKind.i64 m.c.1), C.tr false (T.int IntKind.i64 m.c.2),
      C.tr false (T.int IntKind.i64 m.c.3), C.tr false (T.int IntKind.i64 m.c.4),
      C.tr false (T.int IntKind.i64 m.c.5), C.tr false (T.int IntKind.i64 m.c.6), C.tr false (eL 11 Rm.cs m.2),
      C.tr false (eL 1 rowI m.3)])] fun (r7 : Ml) =>
 gd ((0 + r4.2.length).ble r4.2.length) <|
 gd ((0 + r4.3.length).ble r4.3.length) <|
 gd ((0 + r7.2.length).ble r7.2.length) <|
 gd ((0 + r7.3.length).ble r7.3.length) <|
 entK ok_EqMl ea_EqMl (f_EqMl) [(0, true,
    [C.tr false (T.int IntKind.i64 r4.c.1), C.tr false (T.int IntKind.i64 r4.c.2),
      C.tr false (T.int IntKind.i64 r4.c.3), C.tr false (T.int IntKind.i64 r4.c.4),
      C.tr false (T.int IntKind.i64 r4.c.5), C.tr false (T.int IntKind.i64 r4.c.6),
      C.tr false (T.arr 11 r4.2.length (cutT 0 r4.2.length (eL 11 Rm.cs r4.2).fn)),
      C.tr false (T.arr 1 r4.3.length (cutT 0 r4.3.length (eL 1 rowI r4.3).fn))]),
  (0, true,
    [C.tr false (T.int IntKind.i64 r7.c.1), C.tr false (T.int IntKind.i64 r7.c.2),
      C.tr false (T.int IntKind.i64 r7.c.3), C.tr false (T.int IntKind.i64 r7.c.4),
      C.tr false (T.int IntKind.i64 r7.c.5), C.tr false (T.int IntKind.i64 r7.c.6),
      C.tr false (T.arr 11 r7.2.length (cutT 0 r7.2.length (eL 11 Rm.cs r7.2).fn)),
      C.tr false (T.arr 1 r7.3.length (cutT 0 r7.3.length (eL 1 rowI r7.3).fn))])] fun (r8 : Bool) =>
 bif !r8 then
  K .ret [(40, ⟨z0, [(false, [.tr true (T.bool false)])]⟩)]
 else
 K .normal (sq_xEagerAlloc_9 m h sz al fr r3 r4 r5)) := by kernel_rfl
def sq_xEagerAlloc_10 (m : Ml) (h : Hd) (sz : Int) (al : Int) (fr : Bool) (r3 : Ml × Int) (r4 : Ml) (r5 : Ml × Int) : St := [(8, ⟨z0, [(false, [.tr true (T.int IntKind.i64 sz)])]⟩), (12, ⟨z0, [(false, [.tr true (T.int IntKind.i64 al)])]⟩), (16, ⟨z0, [(false, [.tr true (T.bool fr)])]⟩), (20, ⟨z0, [(false, [(C.pt (Pt.ptr 21 0 [] 8 0 0))])]⟩), (ce_xEagerAlloc_0 m), (24, ⟨z0, [(false, [(C.pt (Pt.ptr 25 0 [] 2 0 0))])]⟩), (25, ⟨z0, [(true, [.tr true (T.int IntKind.i64 h.1), .tr true (T.int IntKind.i64 h.2)])]⟩), (48, ⟨z0, [(false, [(C.pt (Pt.ptr 49 0 [] 8 0 0))])]⟩), (ce_xEagerAlloc_1 r3), (52, ⟨z0, [(false, [.tr true (T.int IntKind.i64 r3.2)])]⟩), (56, ⟨z0, [(false, [(C.pt (Pt.ptr 57 0 [] 8 0 0))])]⟩), (ce_xEagerAlloc_5 r4), (60, ⟨z0, [(false, [(C.pt (Pt.ptr 61 0 [] 8 0 0))])]⟩), (ce_xEagerAlloc_7 r5), (64, ⟨z0, [(false, [.tr true (T.int IntKind.i64 r5.2)])]⟩), (68, ⟨z0, [(false, [.tr true (T.int IntKind.i64 1)])]⟩), (ce_xEagerAlloc_2 r3), (ce_xEagerAlloc_3 r3), (ce_xEagerAlloc_4 r3), (ce_xEagerAlloc_6 r4), (ce_xEagerAlloc_8 r5), (ce_xEagerAlloc_9 r5), (ce_xEagerAlloc_10 r5)]
theorem sg_xEagerAlloc_9 (m : Ml) (h : Hd) (sz : Int) (al : Int) (fr : Bool) (r3 : Ml × Int) (r4 : Ml) (r5 : Ml × Int) (n : Nat) (K : Ex → St → Res) : atP prog (tabS [(i_SzMl, e_SzMl), (i_ToMl, e_ToMl), (i_toHd, e_toHd), (i_sEagerAlloc, e_sEagerAlloc), (i_iEagerAlloc, e_iEagerAlloc), (i_EqMl, e_EqMl), (i_mkMl, e_mkMl), (i_hdMl, e_hdMl)]) kp_xEagerAlloc F_xEagerAlloc [1, 1, 1, 1, 1, 1, 1, 1, 1, 0] n (sq_xEagerAlloc_9 m h sz al fr r3 r4 r5) K = (
 K .normal (sq_xEagerAlloc_10 m h sz al fr r3 r4 r5)) := by kernel_rfl
def sq_xEagerAlloc_11 (m : Ml) (h : Hd) (sz : Int) (al : Int) (fr : Bool) (r3 : Ml × Int) (r5 : Ml × Int) (r10 : List Int × Int) : St := [(8, ⟨z0, [(false, [.tr true (T.int IntKind.i64 sz)])]⟩), (12, ⟨z0, [(false, [.tr true (T.int IntKind.i64 al)])]⟩), (16, ⟨z0, [(false, [.tr true (T.bool fr)])]⟩), (20, ⟨z0, [(false, [(C.pt (Pt.ptr 21 0 [] 8 0 0))])]⟩), (ce_xEagerAlloc_0 m), (24, ⟨z0, [(false, [(C.pt (Pt.ptr 25 0 [] 2 0 0))])]⟩), (25, ⟨z0, [(true, [.tr true (T.int IntKind.i64 h.1), .tr true (T.int IntKind.i64 h.2)])]⟩), (48, ⟨z0, [(false, [(C.pt (Pt.ptr 49 0 [] 8 0 0))])]⟩), (ce_xEagerAlloc_1 r3), (52, ⟨z0, [(false, [.tr true (T.int IntKind.i64 r3.2)])]⟩), (60, ⟨z0, [(false, [(C.pt (Pt.ptr 61 0 [] 8 0 0))])]⟩), (ce_xEagerAlloc_7 r5), (64, ⟨z0, [(false, [.tr true (T.int IntKind.i64 r5.2)])]⟩), (68, ⟨z0, [(false, [.tr true (T.int IntKind.i64 (f_ctLI r10))])]⟩), (ce_xEagerAlloc_2 r3), (ce_xEagerAlloc_3 r3), (ce_xEagerAlloc_4 r3), (ce_xEagerAlloc_8 r5), (ce_xEagerAlloc_9 r5), (ce_xEagerAlloc_10 r5)]
theorem sg_xEagerAlloc_10 (m : Ml) (h : Hd) (sz : Int) (al : Int) (fr : Bool) (r3 : Ml × Int) (r4 : Ml) (r5 : Ml × Int) (n : Nat) (K : Ex → St → Res) : atP prog (tabS [(i_SzMl, e_SzMl), (i_ToMl, e_ToMl), (i_toHd, e_toHd), (i_sEagerAlloc, e_sEagerAlloc), (i_iEagerAlloc, e_iEagerAlloc), (i_EqMl, e_EqMl), (i_mkMl, e_mkMl), (i_hdMl, e_hdMl)]) kp_xEagerAlloc F_xEagerAlloc [1, 1, 1, 1, 1, 1, 1, 1, 1, 1, 0] n (sq_xEagerAlloc_10 m h sz al fr r3 r4 r5) K = (
 gd (r4.2.length.beq r4.2.length && true) <|
 gd (r4.3.length.beq r4.3.length && true) <|
 gd (r4.2.length.beq r4.2.length && true) <|
 entK okh_RmS eam_RmS (fun x => x) [(1, false, [C.tr true (T.arr 11 r4.2.length (eL 11 Rm.cs r4.2).fn)]),
  (0, false, [C.tr false (T.int IntKind.i64 1)])] fun (r9 : List Rm × Int) =>
 gd (r4.2.length.beq (f_mkRmS r9).length && true) <|
 gd (r4.3.length.beq r4.3.length && true) <|
 entK okh_LI eam_LI (fun x => x) [(1, false, [C.tr true (T.arr 1 r4.3.length (eL 1 rowI r4.3).fn)]),
  (0, false, [C.tr false (T.int IntKind.i64 (f_ctRmS r9))])] fun (r10 : List Int × Int) =>
 gd (r4.3.length.beq (f_mkLI r10).length && true) <|
 gd (r4.2.length.beq (f_mkRmS r9).length && true) <|
 gd (r4.3.length.beq (f_mkLI r10).length && true) <|
 K .normal (sq_xEagerAlloc_11 m h sz al fr r3 r5 r10)) := by kernel_rfl
def sq_xEagerAlloc_12 (m : Ml) (h : Hd) (sz : Int) (al : Int) (fr : Bool) (r3 : Ml × Int) (r5 : Ml × Int) : St := [(8, ⟨z0, [(false, [.tr true (T.int IntKind.i64 sz)])]⟩), (12, ⟨z0, [(false, [.tr true (T.int IntKind.i64 al)])]⟩), (16, ⟨z0, [(false, [.tr true (T.bool fr)])]⟩), (20, ⟨z0, [(false, [(C.pt (Pt.ptr 21 0 [] 8 0 0))])]⟩), (ce_xEagerAlloc_0 m), (24, ⟨z0, [(false, [(C.pt (Pt.ptr 25 0 [] 2 0 0))])]⟩), (25, ⟨z0, [(true, [.tr true (T.int IntKind.i64 h.1), .tr true (T.int IntKind.i64 h.2)])]⟩), (48, ⟨z0, [(false, [(C.pt (Pt.ptr 49 0 [] 8 0 0))])]⟩), (ce_xEagerAlloc_1 r3), (52, ⟨z0, [(false, [.tr true (T.int IntKind.i64 r3.2)])]⟩), (60, ⟨z0, [(false, [(C.pt (Pt.ptr 61 0 [] 8 0 0))])]⟩), (ce_xEagerAlloc_7 r5), (ce_xEagerAlloc_2 r3), (ce_xEagerAlloc_3 r3), (ce_xEagerAlloc_4 r3), (ce_xEagerAlloc_8 r5), (ce_xEagerAlloc_9 r5), (ce_xEagerAlloc_10 r5), (316, ⟨z0, []⟩)]
theorem sg_xEagerAlloc_11 (m : Ml) (h : Hd) (sz : Int) (al : Int) (fr : Bool) (r3 : Ml × Int) (r5 : Ml × Int) (r10 : List Int × Int) (n : Nat) (K : Ex → St → Res) : atP prog (tabS [(i_SzMl, e_SzMl), (i_ToMl, e_ToMl), (i_toHd, e_toHd), (i_sEagerAlloc, e_sEagerAlloc), (i_iEagerAlloc, e_iEagerAlloc), (i_EqMl, e_EqMl), (i_mkMl, e_mkMl), (i_hdMl, e_hdMl)]) kp_xEagerAlloc F_xEagerAlloc [1, 1, 1, 1, 1, 1, 1, 1, 1, 1, 1, 0] n (sq_xEagerAlloc_11 m h sz al fr r3 r5 r10) K = (
 bif decide (f_ctLI r10 < 0) then
  K .ret [(40, ⟨z0, [(false, [.tr true (T.bool false)])]⟩)]
 else
 gd ((0 + r5.fst.2.length).ble r5.fst.2.length) <|
 gd ((0 + r5.fst.3.length).ble r5.fst.3.length) <|
 gd ((0 + r3.fst.2.length).ble r3.fst.2.length) <|
 gd ((0 + r3.fst.3.length).ble r3.fst.3.length) <|
 entK ok_EqMl ea_EqMl (f_EqMl) [(0, true,
    [C.tr false (T.int IntKind.i64 r5.fst.c.1), C.tr false (T.int IntKind.i64 r5.fst.c.2),
      C.tr false (T.int IntKind.i64 r5.fst.c.3), C.tr false (T.int IntKind.i64 r5.fst.c.4),
      C.tr false (T.int IntKind.i64 r5.fst.c.5), C.tr false (T.int IntKind.i64 r5.fst.c.6),
      C.tr false (T.arr 11 r5.fst.2.length (cutT 0 r5.fst.2.length (eL 11 Rm.cs r5.fst.2).fn)),
      C.tr false (T.arr 1 r5.fst.3.length (cutT 0 r5.fst.3.length (eL 1 rowI r5.fst.3).fn))]),
  (0, true,
    [C.tr false (T.int IntKind.i64 r3.fst.c.1), C.tr false (T.int IntKind.i64 r3.fst.c.2),
      C.tr false (T.int IntKind.i64 r3.fst.c.3), C.tr false (T.int IntKind.i64 r3.fst.c.4),
      C.tr false (T.int IntKind.i64 r3.fst.c.5), C.tr false (T.int IntKind.i64 r3.fst.c.6),
      C.tr false (T.arr 11 r3.fst.2.length (cutT 0 r3.fst.2.length (eL 11 Rm.cs r3.fst.2).fn)),
      C.tr false (T.arr 1 r3.fst.3.length (cutT 0 r3.fst.3.length (eL 1 rowI r3.fst.3).fn))])] fun (r11 : Bool) =>
 bif !r11 then
  K .ret [(40, ⟨z0, [(false, [.tr true (T.bool false)])]⟩)]
 else
 bif r5.2 != r3.2 then
  K .ret [(40, ⟨z0, [(false, [.tr true (T.bool false)])]⟩)]
 else
 K .normal (sq_xEagerAlloc_12 m h sz al fr r3 r5)) := by kernel_rfl
def sq_xEagerAlloc_13 (m : Ml) (h : Hd) (sz : Int) (al : Int) (fr : Bool) (r3 : Ml × Int) (r5 : Ml × Int) : St := [(8, ⟨z0, [(false, [.tr true (T.int IntKind.i64 sz)])]⟩), (12, ⟨z0, [(false, [.tr true (T.int IntKind.i64 al)])]⟩), (16, ⟨z0, [(false, [.tr true (T.bool fr)])]⟩), (20, ⟨z0, [(false, [(C.pt (Pt.ptr 21 0 [] 8 0 0))])]⟩), (ce_xEagerAlloc_0 m), (24, ⟨z0, [(false, [(C.pt (Pt.ptr 25 0 [] 2 0 0))])]⟩), (25, ⟨z0, [(true, [.tr true (T.int IntKind.i64 h.1), .tr true (T.int IntKind.i64 h.2)])]⟩), (48, ⟨z0, [(false, [(C.pt (Pt.ptr 49 0 [] 8 0 0))])]⟩), (ce_xEagerAlloc_1 r3), (52, ⟨z0, [(false, [.tr true (T.int IntKind.i64 r3.2)])]⟩), (60, ⟨z0, [(false, [(C.pt (Pt.ptr 61 0 [] 8 0 0))])]⟩), (ce_xEagerAlloc_7 r5), (72, ⟨z0, [(false, [.tr true (T.int IntKind.i64 1)])]⟩), (ce_xEagerAlloc_2 r3), (ce_xEagerAlloc_3 r3), (ce_xEagerAlloc_4 r3), (ce_xEagerAlloc_8 r5), (ce_xEagerAlloc_9 r5), (ce_xEagerAlloc_10 r5)]
theorem sg_xEagerAlloc_12 (m : Ml) (h : Hd) (sz : Int) (al : Int) (fr : Bool) (r3 : Ml × Int) (r5 : Ml × Int) (n : Nat) (K : Ex → St → Res) : atP prog (tabS [(i_SzMl, e_SzMl), (i_ToMl, e_ToMl), (i_toHd, e_toHd), (i_sEagerAlloc, e_sEagerAlloc), (i_iEagerAlloc, e_iEagerAlloc), (i_EqMl, e_EqMl), (i_mkMl, e_mkMl), (i_hdMl, e_hdMl)]) kp_xEagerAlloc F_xEagerAlloc [1, 1, 1, 1, 1, 1, 1, 1, 1, 1, 1, 1, 0] n (sq_xEagerAlloc_12 m h sz al fr r3 r5) K = (
 K .normal (sq_xEagerAlloc_13 m h sz al fr r3 r5)) := by kernel_rfl
def ce_xEagerAlloc_11 (r5 : Ml × Int) (r12 : List Rm × Int) (r13 : List Int × Int) : Nat × Ct := (61, ⟨z0, [(true, [.tr true (T.int IntKind.i64 r5.fst.c.1), .tr true (T.int IntKind.i64 r5.fst.c.2), .tr true (T.int IntKind.i64 r5.fst.c.3), .tr true (T.int IntKind.i64 r5.fst.c.4), .tr true (T.int IntKind.i64 r5.fst.c.5), .tr true (T.int IntKind.i64 r5.fst.c.6), .tr true (.arr (11) ((f_mkRmS r12).length) (atL Rm.cs (f_mkRmS r12))), .tr true (.arr (1) ((f_mkLI r13).length) (atL rowI (f_mkLI r13)))])]⟩)
def sq_xEagerAlloc_14 (m : Ml) (h : Hd) (sz : Int) (al : Int) (fr : Bool) (r3 : Ml × Int) (r5 : Ml × Int) (r12 : List Rm × Int) (r13 : List Int × Int) : St := [(8, ⟨z0, [(false, [.tr true (T.int IntKind.i64 sz)])]⟩), (12, ⟨z0, [(false, [.tr true (T.int IntKind.i64 al)])]⟩), (16, ⟨z0, [(false, [.tr true (T.bool fr)])]⟩), (20, ⟨z0, [(false, [(C.pt (Pt.ptr 21 0 [] 8 0 0))])]⟩), (ce_xEagerAlloc_0 m), (24, ⟨z0, [(false, [(C.pt (Pt.ptr 25 0 [] 2 0 0))])]⟩), (25, ⟨z0, [(true, [.tr true (T.int IntKind.i64 h.1), .tr true (T.int IntKind.i64 h.2)])]⟩), (48, ⟨z0, [(false, [(C.pt (Pt.ptr 49 0 [] 8 0 0))])]⟩), (ce_xEagerAlloc_1 r3), (52, ⟨z0, [(false, [.tr true (T.int IntKind.i64 r3.2)])]⟩), (60, ⟨z0, [(false, [(C.pt (Pt.ptr 61 0 [] 8 0 0))])]⟩), (ce_xEagerAlloc_11 r5 r12 r13), (72, ⟨z0, [(false, [.tr true (T.int IntKind.i64 (f_ctLI r13))])]⟩), (ce_xEagerAlloc_2 r3), (ce_xEagerAlloc_3 r3), (ce_xEagerAlloc_4 r3), (ce_xEagerAlloc_8 r5), (ce_xEagerAlloc_9 r5), (ce_xEagerAlloc_10 r5)]
theorem sg_xEagerAlloc_13 (m : Ml) (h : Hd) (sz : Int) (al : Int) (fr : Bool) (r3 : Ml × Int) (r5 : Ml × Int) (n : Nat) (K : Ex → St → Res) : atP prog (tabS [(i_SzMl, e_SzMl), (i_ToMl, e_ToMl), (i_toHd, e_toHd), (i_sEagerAlloc, e_sEagerAlloc), (i_iEagerAlloc, e_iEagerAlloc), (i_EqMl, e_EqMl), (i_mkMl, e_mkMl), (i_hdMl, e_hdMl)]) kp_xEagerAlloc F_xEagerAlloc [1, 1, 1, 1, 1, 1, 1, 1, 1, 1, 1, 1, 1, 0] n (sq_xEagerAlloc_13 m h sz al fr r3 r5) K = (
 gd (r5.fst.2.length.beq r5.fst.2.length && true) <|
 gd (r5.fst.3.length.beq r5.fst.3.length && true) <|
 gd (r5.fst.2.length.beq r5.fst.2.length && true) <|
 entK okh_RmS eam_RmS (fun x => x) [(1, false, [C.tr true (T.arr 11 r5.fst.2.length (eL 11 Rm.cs r5.fst.2).fn)]),
  (0, false, [C.tr false (T.int IntKind.i64 1)])] fun (r12 : List Rm × Int) =>
 gd (r5.fst.2.length.beq (f_mkRmS r12).length && true) <|
 gd (r5.fst.3.length.beq r5.fst.3.length && true) <|
 entK okh_LI eam_LI (fun x => x) [(1, false, [C.tr true (T.arr 1 r5.fst.3.length (eL 1 rowI r5.fst.3).fn)]),
  (0, false, [C.tr false (T.int IntKind.i64 (f_ctRmS r12))])] fun (r13 : List Int × Int) =>
 gd (r5.fst.3.length.beq (f_mkLI r13).length && true) <|
 gd (r5.fst.2.length.beq (f_mkRmS r12).length && true) <|
 gd (r5.fst.3.length.beq (f_mkLI r13).length && true) <|
 K .normal (sq_xEagerAlloc_14 m h sz al fr r3 r5 r12 r13)) := by kernel_rfl
def sq_xEagerAlloc_15 (m : Ml) (h : Hd) (sz : Int) (al : Int) (fr : Bool) (r3 : Ml × Int) (r5 : Ml × Int) (r12 : List Rm × Int) (r13 : List Int × Int) : St := [(8, ⟨z0, [(false, [.tr true (T.int IntKind.i64 sz)])]⟩), (12, ⟨z0, [(false, [.tr true (T.int IntKind.i64 al)])]⟩), (16, ⟨z0, [(false, [.tr true (T.bool fr)])]⟩), (20, ⟨z0, [(false, [(C.pt (Pt.ptr 21 0 [] 8 0 0))])]⟩), (ce_xEagerAlloc_0 m), (24, ⟨z0, [(false, [(C.pt (Pt.ptr 25 0 [] 2 0 0))])]⟩), (25, ⟨z0, [(true, [.tr true (T.int IntKind.i64 h.1), .tr true (T.int IntKind.i64 h.2)])]⟩), (48, ⟨z0, [(false, [(C.pt (Pt.ptr 49 0 [] 8 0 0))])]⟩), (ce_xEagerAlloc_1 r3), (52, ⟨z0, [(false, [.tr true (T.int IntKind.i64 r3.2)])]⟩), (60, ⟨z0, [(false, [(C.pt (Pt.ptr 61 0 [] 8 0 0))])]⟩), (ce_xEagerAlloc_11 r5 r12 r13), (72, ⟨z0, [(false, [.tr true (T.int IntKind.i64 (f_ctLI r13))])]⟩), (76, ⟨z0, [(false, [.tr true (T.int IntKind.i64 1)])]⟩), (ce_xEagerAlloc_2 r3), (ce_xEagerAlloc_3 r3), (ce_xEagerAlloc_4 r3), (ce_xEagerAlloc_8 r5), (ce_xEagerAlloc_9 r5), (ce_xEagerAlloc_10 r5)]
theorem sg_xEagerAlloc_14 (m : Ml) (h : Hd) (sz : Int) (al : Int) (fr : Bool) (r3 : Ml × Int) (r5 : Ml × Int) (r12 : List Rm × Int) (r13 : List Int × Int) (n : Nat) (K : Ex → St → Res) : atP prog (tabS [(i_SzMl, e_SzMl), (i_ToMl, e_ToMl), (i_toHd, e_toHd), (i_sEagerAlloc, e_sEagerAlloc), (i_iEagerAlloc, e_iEagerAlloc), (i_EqMl, e_EqMl), (i_mkMl, e_mkMl), (i_hdMl, e_hdMl)]) kp_xEagerAlloc F_xEagerAlloc [1, 1, 1, 1, 1, 1, 1, 1, 1, 1, 1, 1, 1, 1, 0] n (sq_xEagerAlloc_14 m h sz al fr r3 r5 r12 r13) K = (
 K .normal (sq_xEagerAlloc_15 m h sz al fr r3 r5 r12 r13)) := by kernel_rfl
def sq_xEagerAlloc_16 (m : Ml) (h : Hd) (sz : Int) (al : Int) (fr : Bool) (r3 : Ml × Int) (r5 : Ml × Int) (r12 : List Rm × Int) (r13 : List Int × Int) (r14 : Int) : St := [(8, ⟨z0, [(false, [.tr true (T.int IntKind.i64 sz)])]⟩), (12, ⟨z0, [(false, [.tr true (T.int IntKind.i64 al)])]⟩), (16, ⟨z0, [(false, [.tr true (T.bool fr)])]⟩), (20, ⟨z0, [(false, [(C.pt (Pt.ptr 21 0 [] 8 0 0))])]⟩), (ce_xEagerAlloc_0 m), (24, ⟨z0, [(false, [(C.pt (Pt.ptr 25 0 [] 2 0 0))])]⟩), (25, ⟨z0, [(true, [.tr true (T.int IntKind.i64 h.1), .tr true (T.int IntKind.i64 h.2)])]⟩), (48, ⟨z0, [(false, [(C.pt (Pt.ptr 49 0 [] 8 0 0))])]⟩), (ce_xEagerAlloc_1 r3), (52, ⟨z0, [(false, [.tr true (T.int IntKind.i64 r3.2)])]⟩), (60, ⟨z0, [(false, [(C.pt (Pt.ptr 61 0 [] 8 0 0))])]⟩), (ce_xEagerAlloc_11 r5 r12 r13), (72, ⟨z0, [(false, [.tr true (T.int IntKind.i64 (f_ctLI r13))])]⟩), (76, ⟨z0, [(false, [.tr true (T.int IntKind.i64 r14)])]⟩), (ce_xEagerAlloc_2 r3), (ce_xEagerAlloc_3 r3), (ce_xEagerAlloc_4 r3), (ce_xEagerAlloc_8 r5), (ce_xEagerAlloc_9 r5), (ce_xEagerAlloc_10 r5)]
theorem sg_xEagerAlloc_15 (m : Ml) (h : Hd) (sz : Int) (al : Int) (fr : Bool) (r3 : Ml × Int) (r5 : Ml × Int) (r12 : List Rm × Int) (r13 : List Int × Int) (n : Nat) (K : Ex → St → Res) : atP prog (tabS [(i_SzMl, e_SzMl), (i_ToMl, e_ToMl), (i_toHd, e_toHd), (i_sEagerAlloc, e_sEagerAlloc), (i_iEagerAlloc, e_iEagerAlloc), (i_EqMl, e_EqMl), (i_mkMl, e_mkMl), (i_hdMl, e_hdMl)]) kp_xEagerAlloc F_xEagerAlloc [1, 1, 1, 1, 1, 1, 1, 1, 1, 1, 1, 1, 1, 1, 1, 0] n (sq_xEagerAlloc_15 m h sz al fr r3 r5 r12 r13) K = (
 gd ((0 + (f_mkRmS r12).length).ble (f_mkRmS r12).length) <|
 gd ((0 + (f_mkLI r13).length).ble (f_mkLI r13).length) <|
 entK ok_hdMl ea_hdMl (f_hdMl) [(0, true,
    [C.tr false (T.int IntKind.i64 r5.fst.c.1), C.tr false (T.int IntKind.i64 r5.fst.c.2),
      C.tr false (T.int IntKind.i64 r5.fst.c.3), C.tr false (T.int IntKind.i64 r5.fst.c.4),
      C.tr false (T.int IntKind.i64 r5.fst.c.5), C.tr false (T.int IntKind.i64 r5.fst.c.6),
      C.tr false
        (T.arr 11 (f_mkRmS r12).length (cutT 0 (f_mkRmS r12).length (atL Rm.cs (f_mkRmS r12)))),
      C.tr false
        (T.arr 1 (f_mkLI r13).length (cutT 0 (f_mkLI r13).length (atL rowI (f_mkLI r13))))]),
  (0, false, [C.tr false (T.int IntKind.i64 1)])] fun (r14 : Int) =>
 K .normal (sq_xEagerAlloc_16 m h sz al fr r3 r5 r12 r13 r14)) := by kernel_rfl
def sq_xEagerAlloc_17 (m : Ml) (h : Hd) (sz : Int) (al : Int) (fr : Bool) (r3 : Ml × Int) (r5 : Ml × Int) (r12 : List Rm × Int) (r13 : List Int × Int) (r14 : Int) : St := [(8, ⟨z0, [(false, [.tr true (T.int IntKind.i64 sz)])]⟩), (12, ⟨z0, [(false, [.tr true (T.int IntKind.i64 al)])]⟩), (16, ⟨z0, [(false, [.tr true (T.bool fr)])]⟩), (20, ⟨z0, [(false, [(C.pt (Pt.ptr 21 0 [] 8 0 0))])]⟩), (ce_xEagerAlloc_0 m), (24, ⟨z0, [(false, [(C.pt (Pt.ptr 25 0 [] 2 0 0))])]⟩), (25, ⟨z0, [(true, [.tr true (T.int IntKind.i64 h.1), .tr true (T.int IntKind.i64 h.2)])]⟩), (48, ⟨z0, [(false, [(C.pt (Pt.ptr 49 0 [] 8 0 0))])]⟩), (ce_xEagerAlloc_1 r3), (52, ⟨z0, [(false, [.tr true (T.int IntKind.i64 r3.2)])]⟩), (60, ⟨z0, [(false, [(C.pt (Pt.ptr 61 0 [] 8 0 0))])]⟩), (ce_xEagerAlloc_11 r5 r12 r13), (72, ⟨z0, [(false, [.tr true (T.int IntKind.i64 (f_ctLI r13))])]⟩), (76, ⟨z0, [(false, [.tr true (T.int IntKind.i64 r14)])]⟩), (ce_xEagerAlloc_2 r3), (ce_xEagerAlloc_3 r3), (ce_xEagerAlloc_4 r3), (ce_xEagerAlloc_8 r5), (ce_xEagerAlloc_9 r5), (ce_xEagerAlloc_10 r5), (348, ⟨z0, []⟩)]
theorem sg_xEagerAlloc_16 (m : Ml) (h : Hd) (sz : Int) (al : Int) (fr : Bool) (r3 : Ml × Int) (r5 : Ml × Int) (r12 : List Rm × Int) (r13 : List Int × Int) (r14 : Int) (n : Nat) (K : Ex → St → Res) : atP prog (tabS [(i_SzMl, e_SzMl), (i_ToMl, e_ToMl), (i_toHd, e_toHd), (i_sEagerAlloc, e_sEagerAlloc), (i_iEagerAlloc, e_iEagerAlloc), (i_EqMl, e_EqMl), (i_mkMl, e_mkMl), (i_hdMl, e_hdMl)]) kp_xEagerAlloc F_xEagerAlloc [1, 1, 1, 1, 1, 1, 1, 1, 1, 1, 1, 1, 1, 1, 1, 1, 0] n (sq_xEagerAlloc_16 m h sz al fr r3 r5 r12 r13 r14) K = (
 bif decide (r14 < 0) then
  K .ret [(40, ⟨z0, [(false, [.tr true (T.bool false)])]⟩)]
 else
 K .normal (sq_xEagerAlloc_17 m h sz al fr r3 r5 r12 r13 r14)) := by kernel_rfl
def sq_xEagerAlloc_18 (m : Ml) (h : Hd) (sz : Int) (al : Int) (fr : Bool) (r3 : Ml × Int) (r5 : Ml × Int) (r12 : List Rm × Int) (r13 : List Int × Int) : St := [(8, ⟨z0, [(false, [.tr true (T.int IntKind.i64 sz)])]⟩), (12, ⟨z0, [(false, [.tr true (T.int IntKind.i64 al)])]⟩), (16, ⟨z0, [(false, [.tr true (T.bool fr)])]⟩), (20, ⟨z0, [(false, [(C.pt (Pt.ptr 21 0 [] 8 0 0))])]⟩), (ce_xEagerAlloc_0 m), (24, ⟨z0, [(false, [(C.pt (Pt.ptr 25 0 [] 2 0 0))])]⟩), (25, ⟨z0, [(true, [.tr true (T.int IntKind.i64 h.1), .tr true (T.int IntKind.i64 h.2)])]⟩), (48, ⟨z0, [(false, [(C.pt (Pt.ptr 49 0 [] 8 0 0))])]⟩), (ce_xEagerAlloc_1 r3), (52, ⟨z0, [(false, [.tr true (T.int IntKind.i64 r3.2)])]⟩), (60, ⟨z0, [(false, [(C.pt (Pt.ptr 61 0 [] 8 0 0))])]⟩), (ce_xEagerAlloc_11 r5 r12 r13), (72, ⟨z0, [(false, [.tr true (T.int IntKind.i64 (f_ctLI r13))])]⟩), (ce_xEagerAlloc_2 r3), (ce_xEagerAlloc_3 r3), (ce_xEagerAlloc_4 r3), (ce_xEagerAlloc_8 r5), (ce_xEagerAlloc_9 r5), (ce_xEagerAlloc_10 r5), (360, ⟨z0, []⟩)]
theorem sg_xEagerAlloc_17 (m : Ml) (h : Hd) (sz : Int) (al : Int) (fr : Bool) (r3 : Ml × Int) (r5 : Ml × Int) (r12 : List Rm × Int) (r13 : List Int × Int) (r14 : Int) (n : Nat) (K : Ex → St → Res) : atP prog (tabS [(i_SzMl, e_SzMl), (i_ToMl, e_ToMl), (i_toHd, e_toHd), (i_sEagerAlloc, e_sEagerAlloc), (i_iEagerAlloc, e_iEagerAlloc), (i_EqMl, e_EqMl), (i_mkMl, e_mkMl), (i_hdMl, e_hdMl)]) kp_xEagerAlloc F_xEagerAlloc [1, 1, 1, 1, 1, 1, 1, 1, 1, 1, 1, 1, 1, 1, 1, 1, 1, 0] n (sq_xEagerAlloc_17 m h sz al fr r3 r5 r12 r13 r14) K = (
 bif r14 != f_ctLI r13 then
  K .ret [(40, ⟨z0, [(false, [.tr true (T.bool false)])]⟩)]
 else
 K .normal (sq_xEagerAlloc_18 m h sz al fr r3 r5 r12 r13)) := by kernel_rfl
def ce_xEagerAlloc_12 (r16 : Ml × Int) : Nat × Ct := (81, ⟨z0, [(true, [.tr true (T.int IntKind.i64 r16.fst.c.1), .tr true (T.int IntKind.i64 r16.fst.c.2), .tr true (T.int IntKind.i64 r16.fst.c.3), .tr true (T.int IntKind.i64 r16.fst.c.4), .tr true (T.int IntKind.i64 r16.fst.c.5), .tr true (T.int IntKind.i64 r16.fst.c.6), .tr true (.arr (11) (r16.fst.2.length) ((eL 11 Rm.cs r16.fst.2).fn)), .tr true (.arr (1) (r16.fst.3.length) ((eL 1 rowI r16.fst.3).fn))])]⟩)
def ce_xEagerAlloc_13 (r16 : Ml × Int) : Nat × Ct := (364, ⟨z0, [(true, [.tr true (T.int IntKind.i64 r16.fst.c.1), .tr true (T.int IntKind.i64 r16.fst.c.2), .tr true (T.int IntKind.i64 r16.fst.c.3), .tr true (T.int IntKind.i64 r16.fst.c.4), .tr true (T.int IntKind.i64 r16.fst.c.5), .tr true (T.int IntKind.i64 r16.fst.c.6), (C.dead), (C.dead)]), (false, [.tr true (T.int IntKind.i64 r16.2)])]⟩)
def ce_xEagerAlloc_14 (r16 : Ml × Int) : Nat × Ct := (396, ⟨z0, [(true, [.tr true (T.int IntKind.i64 r16.fst.c.1), .tr true (T.int IntKind.i64 r16.fst.c.2), .tr true (T.int IntKind.i64 r16.fst.c.3), .tr true (T.int IntKind.i64 r16.fst.c.4), .tr true (T.int IntKind.i64 r16.fst.c.5), .tr true (T.int IntKind.i64 r16.fst.c.6), .tr true (T.hole), .tr true (T.hole)]), (false, [.tr true (T.int IntKind.i64 r16.2)])]⟩)
def ce_xEagerAlloc_15 (r16 : Ml × Int) : Nat × Ct := (400, ⟨z0, [(true, [.tr true (T.int IntKind.i64 r16.fst.c.1), .tr true (T.int IntKind.i64 r16.fst.c.2), .tr true (T.int IntKind.i64 r16.fst.c.3), .tr true (T.int IntKind.i64 r16.fst.c.4), .tr true (T.int IntKind.i64 r16.fst.c.5), .tr true (T.int IntKind.i64 r16.fst.c.6), (C.dead), (C.dead)])]⟩)
def sq_xEagerAlloc_19 (m : Ml) (h : Hd) (sz : Int) (al : Int) (fr : Bool) (r3 : Ml × Int) (r5 : Ml × Int) (r12 : List Rm × Int) (r13 : List Int × Int) (r16 : Ml × Int) : St := [(48, ⟨z0, [(false, [(C.pt (Pt.ptr 49 0 [] 8 0 0))])]⟩), (ce_xEagerAlloc_1 r3), (52, ⟨z0, [(false, [.tr true (T.int IntKind.i64 r3.2)])]⟩), (60, ⟨z0, [(false, [(C.pt (Pt.ptr 61 0 [] 8 0 0))])]⟩), (ce_xEagerAlloc_11 r5 r12 r13), (72, ⟨z0, [(false, [.tr true (T.int IntKind.i64 (f_ctLI r13))])]⟩), (80, ⟨z0, [(false, [(C.pt (Pt.ptr 81 0 [] 8 0 0))])]⟩), (ce_xEagerAlloc_12 r16), (84, ⟨z0, [(false, [.tr true (T.int IntKind.i64 r16.2)])]⟩), (ce_xEagerAlloc_2 r3), (ce_xEagerAlloc_3 r3), (ce_xEagerAlloc_4 r3), (ce_xEagerAlloc_8 r5), (ce_xEagerAlloc_9 r5), (ce_xEagerAlloc_10 r5), (ce_xEagerAlloc_13 r16), (ce_xEagerAlloc_14 r16), (ce_xEagerAlloc_15 r16)]
theorem sg_xEagerAlloc_18 (m : Ml) (h : Hd) (sz : Int) (al : Int) (fr : Bool) (r3 : Ml × Int) (r5 : Ml × Int) (r12 : List Rm × Int) (r13 : List Int × Int) (n : Nat) (K : Ex → St → Res) : atP prog (tabS [(i_SzMl, e_SzMl), (i_ToMl, e_ToMl), (i_toHd, e_toHd), (i_sEagerAlloc, e_sEagerAlloc), (i_iEagerAlloc, e_iEagerAlloc), (i_EqMl, e_EqMl), (i_mkMl, e_mkMl), (i_hdMl, e_hdMl)]) kp_xEagerAlloc F_xEagerAlloc [1, 1, 1, 1, 1, 1, 1, 1, 1, 1, 1, 1, 1, 1, 1, 1, 1, 1, 0] n (sq_xEagerAlloc_18 m h sz al fr r3 r5 r12 r13) K = (
 entK ok_ToMl ea_ToMl (f_ToMl) [(0, true,
    [C.tr false (T.int IntKind.i64 m.c.1), C.tr false (T.int IntKind.i64 m.c.2),
      C.tr false (T.int IntKind.i64 m.c.3), C.tr false (T.int IntKind.i64 m.c.4),
      C.tr false (T.int IntKind.i64 m.c.5), C.tr false (T.int IntKind.i64 m.c.6), C.tr false (eL 11 Rm.cs m.2),
      C.tr false (eL 1 rowI m.3)])] fun (r15 : Ml) =>
 gd ((0 + r15.2.length).ble r15.2.length) <|
 gd ((0 + r15.3.length).ble r15.3.length) <|
 entK ok_iEagerAlloc ea_iEagerAlloc (f_iEagerAlloc) [(0, true,
    [C.tr false (T.int IntKind.i64 r15.c.1), C.tr false (T.int IntKind.i64 r15.c.2),
      C.tr false (T.int IntKind.i64 r15.c.3), C.tr false (T.int IntKind.i64 r15.c.4),
      C.tr false (T.int IntKind.i64 r15.c.5), C.tr false (T.int IntKind.i64 r15.c.6),
      C.tr false (T.arr 11 r15.2.length (cutT 0 r15.2.length (eL 11 Rm.cs r15.2).fn)),
      C.tr false (T.arr 1 r15.3.length (cutT 0 r15.3.length (eL 1 rowI r15.3).fn))]),
  (0, true, [C.tr false (T.int IntKind.i64 h.1), C.tr false (T.int IntKind.i64 h.2)]),
  (0, false, [C.tr false (T.int IntKind.i64 sz)]), (0, false, [C.tr false (T.int IntKind.i64 al)]),
  (0, false, [C.tr false (T.bool fr)])] fun (r16 : Ml × Int) =>
 gd (r16.fst.2.length.ble r16.fst.2.length && true) <|
 gd (r16.fst.3.length.ble r16.fst.3.length && true) <|
 K .normal (sq_xEagerAlloc_19 m h sz al fr r3 r5 r12 r13 r16)) := by kernel_rfl
def sq_xEagerAlloc_20 (m : Ml) (h : Hd) (sz : Int) (al : Int) (fr : Bool) (r5 : Ml × Int) (r12 : List Rm × Int) (r13 : List Int × Int) : St := [(60, ⟨z0, [(false, [(C.pt (Pt.ptr 61 0 [] 8 0 0))])]⟩), (ce_xEagerAlloc_11 r5 r12 r13), (72, ⟨z0, [(false, [.tr true (T.int IntKind.i64 (f_ctLI r13))])]⟩), (ce_xEagerAlloc_8 r5), (ce_xEagerAlloc_9 r5), (ce_xEagerAlloc_10 r5), (440, ⟨z0, []⟩)]
theorem sg_xEagerAlloc_19 (m : Ml) (h : Hd) (sz : Int) (al : Int) (fr : Bool) (r3 : Ml × Int) (r5 : Ml × Int) (r12 : List Rm × Int) (r13 : List Int × Int) (r16 : Ml × Int) (n : Nat) (K : Ex → St → Res) : atP prog (tabS [(i_SzMl, e_SzMl), (i_ToMl, e_ToMl), (i_toHd, e_toHd), (i_sEagerAlloc, e_sEagerAlloc), (i_iEagerAlloc, e_iEagerAlloc), (i_EqMl, e_EqMl), (i_mkMl, e_mkMl), (i_hdMl, e_hdMl)]) kp_xEagerAlloc F_xEagerAlloc [1, 1, 1, 1, 1, 1, 1, 1, 1, 1, 1, 1, 1, 1, 1, 1, 1, 1, 1, 0] n (sq_xEagerAlloc_19 m h sz al fr r3 r5 r12 r13 r16) K = (
 gd ((0 + r16.fst.2.length).ble r16.fst.2.length) <|
 gd ((0 + r16.fst.3.length).ble r16.fst.3.length) <|
 gd ((0 + r3.fst.2.length).ble r3.fst.2.length) <|
 gd ((0 + r3.fst.3.length).ble r3.fst.3.length) <|
 entK ok_EqMl ea_EqMl (f_EqMl) [(0, true,
    [C.tr false (T.int IntKind.i64 r16.fst.c.1), C.tr false (T.int IntKind.i64 r16.fst.c.2),
      C.tr false (T.int IntKind.i64 r16.fst.c.3), C.tr false (T.int IntKind.i64 r16.fst.c.4),
      C.tr false (T.int IntKind.i64 r16.fst.c.5), C.tr false (T.int IntKind.i64 r16.fst.c.6),
      C.tr false (T.arr 11 r16.fst.2.length (cutT 0 r16.fst.2.length (eL 11 Rm.cs r16.fst.2).fn)),
      C.tr false (T.arr 1 r16.fst.3.length (cutT 0 r16.fst.3.length (eL 1 rowI r16.fst.3).fn))]),
  (0, true,
    [C.tr false (T.int IntKind.i64 r3.fst.c.1), C.tr false (T.int IntKind.i64 r3.fst.c.2),
      C.tr false (T.int IntKind.i64 r3.fst.c.3), C.tr false (T.int IntKind.i64 r3.fst.c.4),
      C.tr false (T.int IntKind.i64 r3.fst.c.5), C.tr false (T.int IntKind.i64 r3.fst.c.6),
      C.tr false (T.arr 11 r3.fst.2.length (cutT 0 r3.fst.2.length (eL 11 Rm.cs r3.fst.2).fn)),
      C.tr false (T.arr 1 r3.fst.3.length (cutT 0 r3.fst.3.length (eL 1 rowI r3.fst.3).fn))])] fun (r17 : Bool) =>
 bif !r17 then
  K .ret [(40, ⟨z0, [(false, [.tr true (T.bool false)])]⟩)]
 else
 bif r16.2 != r3.2 then
  K .ret [(40, ⟨z0, [(false, [.tr true (T.bool false)])]⟩)]
 else
 K .normal (sq_xEagerAlloc_20 m h sz al fr r5 r12 r13)) := by kernel_rfl
def sq_xEagerAlloc_21 (m : Ml) (h : Hd) (sz : Int) (al : Int) (fr : Bool) (r5 : Ml × Int) (r12 : List Rm × Int) (r13 : List Int × Int) : St := [(60, ⟨z0, [(false, [(C.pt (Pt.ptr 61 0 [] 8 0 0))])]⟩), (ce_xEagerAlloc_11 r5 r12 r13), (72, ⟨z0, [(false, [.tr true (T.int IntKind.i64 (f_ctLI r13))])]⟩), (76, ⟨z0, [(false, [.tr true (T.int IntKind.i64 1)])]⟩), (ce_xEagerAlloc_8 r5), (ce_xEagerAlloc_9 r5), (ce_xEagerAlloc_10 r5)]
theorem sg_xEagerAlloc_20 (m : Ml) (h : Hd) (sz : Int) (al : Int) (fr : Bool) (r5 : Ml × Int) (r12 : List Rm × Int) (r13 : List Int × Int) (n : Nat) (K : Ex → St → Res) : atP prog (tabS [(i_SzMl, e_SzMl), (i_ToMl, e_ToMl), (i_toHd, e_toHd), (i_sEagerAlloc, e_sEagerAlloc), (i_iEagerAlloc, e_iEagerAlloc), (i_EqMl, e_EqMl), (i_mkMl, e_mkMl), (i_hdMl, e_hdMl)]) kp_xEagerAlloc F_xEagerAlloc [1, 1, 1, 1, 1, 1, 1, 1, 1, 1, 1, 1, 1, 1, 1, 1, 1, 1, 1, 1, 0] n (sq_xEagerAlloc_20 m h sz al fr r5 r12 r13) K = (
 K .normal (sq_xEagerAlloc_21 m h sz al fr r5 r12 r13)) := by kernel_rfl
def sq_xEagerAlloc_22 (m : Ml) (h : Hd) (sz : Int) (al : Int) (fr : Bool) (r13 : List Int × Int) (r18 : Int) : St := [(72, ⟨z0, [(false, [.tr true (T.int IntKind.i64 (f_ctLI r13))])]⟩), (76, ⟨z0, [(false, [.tr true (T.int IntKind.i64 r18)])]⟩)]
theorem sg_xEagerAlloc_21 (m : Ml) (h : Hd) (sz : Int) (al : Int) (fr : Bool) (r5 : Ml × Int) (r12 : List Rm × Int) (r13 : List Int × Int) (n : Nat) (K : Ex → St → Res) : atP prog (tabS [(i_SzMl, e_SzMl), (i_ToMl, e_ToMl), (i_toHd, e_toHd), (i_sEagerAlloc, e_sEagerAlloc), (i_iEagerAlloc, e_iEagerAlloc), (i_EqMl, e_EqMl), (i_mkMl, e_mkMl), (i_hdMl, e_hdMl)]) kp_xEagerAlloc F_xEagerAlloc [1, 1, 1, 1, 1, 1, 1, 1, 1, 1, 1, 1, 1, 1, 1, 1, 1, 1, 1, 1, 1, 0] n (sq_xEagerAlloc_21 m h sz al fr r5 r12 r13) K = (
 gd ((0 + (f_mkRmS r12).length).ble (f_mkRmS r12).length) <|
 gd ((0 + (f_mkLI r13).length).ble (f_mkLI r13).length) <|
 entK ok_hdMl ea_hdMl (f_hdMl) [(0, true,
    [C.tr false (T.int IntKind.i64 r5.fst.c.1), C.tr false (T.int IntKind.i64 r5.fst.c.2),
      C.tr false (T.int IntKind.i64 r5.fst.c.3), C.tr false (T.int IntKind.i64 r5.fst.c.4),
      C.tr false (T.int IntKind.i64 r5.fst.c.5), C.tr false (T.int IntKind.i64 r5.fst.c.6),
      C.tr false
        (T.arr 11 (f_mkRmS r12).length (cutT 0 (f_mkRmS r12).length (atL Rm.cs (f_mkRmS r12)))),
      C.tr false
        (T.arr 1 (f_mkLI r13).length (cutT 0 (f_mkLI r13).length (atL rowI (f_mkLI r13))))]),
  (0, false, [C.tr false (T.int IntKind.i64 1)])] fun (r18 : Int) =>
 K .normal (sq_xEagerAlloc_22 m h sz al fr r13 r18)) := by kernel_rfl
def sq_xEagerAlloc_23 (m : Ml) (h : Hd) (sz : Int) (al : Int) (fr : Bool) (r13 : List Int × Int) (r18 : Int) : St := [(72, ⟨z0, [(false, [.tr true (T.int IntKind.i64 (f_ctLI r13))])]⟩), (76, ⟨z0, [(false, [.tr true (T.int IntKind.i64 r18)])]⟩), (460, ⟨z0, []⟩)]
theorem sg_xEagerAlloc_22 (m : Ml) (h : Hd) (sz : Int) (al : Int) (fr : Bool) (r13 : List Int × Int) (r18 : Int) (n : Nat) (K : Ex → St → Res) : atP prog (tabS [(i_SzMl, e_SzMl), (i_ToMl, e_ToMl), (i_toHd, e_toHd), (i_sEagerAlloc, e_sEagerAlloc), (i_iEagerAlloc, e_iEagerAlloc), (i_EqMl, e_EqMl), (i_mkMl, e_mkMl), (i_hdMl, e_hdMl)]) kp_xEagerAlloc F_xEagerAlloc [1, 1, 1, 1, 1, 1, 1, 1, 1, 1, 1, 1, 1, 1, 1, 1, 1, 1, 1, 1, 1, 1, 0] n (sq_xEagerAlloc_22 m h sz al fr r13 r18) K = (
 bif decide (r18 < 0) then
  K .ret [(40, ⟨z0, [(false, [.tr true (T.bool false)])]⟩)]
 else
 K .normal (sq_xEagerAlloc_23 m h sz al fr r13 r18)) := by kernel_rfl
def sq_xEagerAlloc_24 (m : Ml) (h : Hd) (sz : Int) (al : Int) (fr : Bool) : St := [(472, ⟨z0, []⟩)]
theorem sg_xEagerAlloc_23 (m : Ml) (h : Hd) (sz : Int) (al : Int) (fr : Bool) (r13 : List Int × Int) (r18 : Int) (n : Nat) (K : Ex → St → Res) : atP prog (tabS [(i_SzMl, e_SzMl), (i_ToMl, e_ToMl), (i_toHd, e_toHd), (i_sEagerAlloc, e_sEagerAlloc), (i_iEagerAlloc, e_iEagerAlloc), (i_EqMl, e_EqMl), (i_mkMl, e_mkMl), (i_hdMl, e_hdMl)]) kp_xEagerAlloc F_xEagerAlloc [1, 1, 1, 1, 1, 1, 1, 1, 1, 1, 1, 1, 1, 1, 1, 1, 1, 1, 1, 1, 1, 1, 1, 0] n (sq_xEagerAlloc_23 m h sz al fr r13 r18) K = (
 bif r18 != f_ctLI r13 then
  K .ret [(40, ⟨z0, [(false, [.tr true (T.bool false)])]⟩)]
 else
 K .normal (sq_xEagerAlloc_24 m h sz al fr)) := by kernel_rfl
def sq_xEagerAlloc_25 (m : Ml) (h : Hd) (sz : Int) (al : Int) (fr : Bool) : St := [(40, ⟨z0, [(false, [.tr true (T.bool true)])]⟩)]
theorem sg_xEagerAlloc_24 (m : Ml) (h : Hd) (sz : Int) (al : Int) (fr : Bool) (n : Nat) (K : Ex → St → Res) : atP prog (tabS [(i_SzMl, e_SzMl), (i_ToMl, e_ToMl), (i_toHd, e_toHd), (i_sEagerAlloc, e_sEagerAlloc), (i_iEagerAlloc, e_iEagerAlloc), (i_EqMl, e_EqMl), (i_mkMl, e_mkMl), (i_hdMl, e_hdMl)]) kp_xEagerAlloc F_xEagerAlloc [1, 1, 1, 1, 1, 1, 1, 1, 1, 1, 1, 1, 1, 1, 1, 1, 1, 1, 1, 1, 1, 1, 1, 1, 0] n (sq_xEagerAlloc_24 m h sz al fr) K = (
 K .normal (sq_xEagerAlloc_25 m h sz al fr)) := by kernel_rfl
theorem sg_xEagerAlloc_25 (m : Ml) (h : Hd) (sz : Int) (al : Int) (fr : Bool) (n : Nat) (K : Ex → St → Res) : atP prog (tabS [(i_SzMl, e_SzMl), (i_ToMl, e_ToMl), (i_toHd, e_toHd), (i_sEagerAlloc, e_sEagerAlloc), (i_iEagerAlloc, e_iEagerAlloc), (i_EqMl, e_EqMl), (i_mkMl, e_mkMl), (i_hdMl, e_hdMl)]) kp_xEagerAlloc F_xEagerAlloc [1, 1, 1, 1, 1, 1, 1, 1, 1, 1, 1, 1, 1, 1, 1, 1, 1, 1, 1, 1, 1, 1, 1, 1, 1] n (sq_xEagerAlloc_25 m h sz al fr) K = (
 K .ret [(40, ⟨z0, [(false, [.tr true (T.bool true)])]⟩)]) := by kernel_rfl
theorem body_xEagerAlloc (m : Ml) (h : Hd) (sz : Int) (al : Int) (fr : Bool) (hm : z_Ml m) (hh : z_Hd h) (hsz : (Lit.int .i64 sz).wf = true) (hal : (Lit.int .i64 al).wf = true) (n : Nat) : body prog (tabS [(i_SzMl, e_SzMl), (i_ToMl, e_ToMl), (i_toHd, e_toHd), (i_sEagerAlloc, e_sEagerAlloc), (i_iEagerAlloc, e_iEagerAlloc), (i_EqMl, e_EqMl), (i_mkMl, e_mkMl), (i_hdMl, e_hdMl)]) kp_xEagerAlloc n F_xEagerAlloc [aR m.cs, aR h.cs, aI sz, aI al, aB fr] = some (erB 5 true) := by
  have hzm := zm
  have hlm := lm
  have hbm := bm
  have rsx := And.intro @lt_d (And.intro @ge0_d (And.intro @Int.toNat_natCast (And.intro @blt_d (And.intro @ble_self (And.intro @beq_self (And.intro @decide_true (And.intro @cond_true.{1} (And.intro @Bool.and_self (And.intro @Bool.and_true (And.intro @Bool.true_and (And.intro @gd_true (And.intro @Nat.zero_add (And.intro @List.getD_cons_zero.{0} (And.intro @List.getD_cons_succ.{0} (And.intro @isI_int (And.intro @toI_int (And.intro @isB_bool (And.intro @toB_bool (And.intro @eL_T (And.intro @arr_ln (And.intro @arr_fn (And.intro @arr_wd (And.intro @arr_is (And.intro @arr_get (And.intro @cut_all (And.intro @bool_self (And.intro @bool_nself (And.intro @int_self (And.intro @int_nself (And.intro @Bool.not_true (And.intro @Bool.not_false (And.intro @cond_false.{1} (And.intro @nextP_n @nextP_r)))))))))))))))))))))))))))))))))
  rw [body_at _ _ _ _ _ _ (by kernel_rfl), show initA F_xEagerAlloc.ntmps 0 [aR m.cs, aR h.cs, aI sz, aI al, aB fr] = sq_xEagerAlloc_0 m h sz al fr from by kernel_rfl]
  have y0 : ok_SzMl (m, 1048576) := ⟨hm, by dsimp only; omega, by dsimp only; omega⟩
  by_cases e0 : (n_Ml m : Int) ≤ 1048576
  case neg =>
    rw [atP_seq (p := []) (q0 := [0]) (q1 := [1]) (by kernel_rfl) rfl rfl]
    rw [sg_xEagerAlloc_0]
    try simp (implicitDefEqProofs := false) only [rsx, Ml.cs, Hd.cs, n_SzMl e0, decide_eq_true (show (-1 : Int) < 0 by omega)]
    rw [atP_seq (p := [1]) (q0 := [1, 0]) (q1 := [1, 1]) (by kernel_rfl) rfl rfl]
    rw [sg_xEagerAlloc_1]
    try simp (implicitDefEqProofs := false) only [rsx, Ml.cs, Hd.cs, n_SzMl e0, decide_eq_true (show (-1 : Int) < 0 by omega)]
    rw [atP_seq (p := [1, 1]) (q0 := [1, 1, 0]) (q1 := [1, 1, 1]) (by kernel_rfl) rfl rfl]
    rw [sg_xEagerAlloc_2]
    try simp (implicitDefEqProofs := false) only [rsx, Ml.cs, Hd.cs, n_SzMl e0, decide_eq_true (show (-1 : Int) < 0 by omega)]
    rw [entK_of (dm_SzMl y0) (iv_SzMl y0)]
    try simp (implicitDefEqProofs := false) only [rsx, Ml.cs, Hd.cs, n_SzMl e0, decide_eq_true (show (-1 : Int) < 0 by omega)]
    rw [atP_seq (p := [1, 1, 1]) (q0 := [1, 1, 1, 0]) (q1 := [1, 1, 1, 1]) (by kernel_rfl) rfl rfl]
    rw [sg_xEagerAlloc_3]
    try simp (implicitDefEqProofs := false) only [rsx, Ml.cs, Hd.cs, n_SzMl e0, decide_eq_true (show (-1 : Int) < 0 by omega)]
    rfl
  have f0 : ¬ 1048576 - (n_Ml m : Int) < 0 := by omega
  obtain ⟨g0, q0⟩ := okn_Ml (l := m) (by omega)
  have c0 : ok_sEagerAlloc (m, h, sz, al, fr) := g0
  have c1 : ok_iEagerAlloc (m, h, sz, al, fr) := g0
  have c2 : ok_EqMl (m, m) := q0
  have hn0 : n_Ml m = n_RmS m.rooms + n_LI m.log := rfl
  have hb0 := cb_RmS m.rooms
  have hk0 : okh_RmS (m.rooms, 1) := ⟨q0.1, by dsimp only; omega, by dsimp only; omega⟩
  have hb1 := cb_LI m.log
  have hk1 : okh_LI (m.log, 1 + (cntL c1_RmS m.rooms : Int)) := ⟨q0.2, by dsimp only; omega, by dsimp only; omega⟩
  have hkm : ¬ 1 + (cntL c1_RmS m.rooms : Int) + (cntL c1_LI m.log : Int) < 0 := by omega
  have tq := alcM_ok (h := h) (sz := sz) (al := al) (fr := fr) q0.1 q0.2
  have tq2 := tq.2.1
  have tq3 := tq.2.2
  have rb0 := cb_RmS ((alcM m h sz al fr).1).rooms
  have rb1 := cb_LI ((alcM m h sz al fr).1).log
  have rn : n_LI ((alcM m h sz al fr).1).log = n_LI m.log := by rw [tq3]
  have cq : ok_EqMl ((alcM m h sz al fr).1, (alcM m h sz al fr).1) := tq.1
  have mq0 : okq_RmS ((alcM m h sz al fr).1).rooms := tq.1.1
  have mh0 : okh_RmS (((alcM m h sz al fr).1).rooms, 1) := ⟨mq0, by dsimp only; omega, by dsimp only; omega⟩
  have mn1 : ¬ 1 + (cntL c1_RmS ((alcM m h sz al fr).1).rooms : Int) < 0 := by omega
  have mq1 : okq_LI ((alcM m h sz al fr).1).log := tq.1.2
  have mh1 : okh_LI (((alcM m h sz al fr).1).log, 1 + (cntL c1_RmS ((alcM m h sz al fr).1).rooms : Int)) := ⟨mq1, by dsimp only; omega, by dsimp only; omega⟩
  have mn2 : ¬ 1 + (cntL c1_RmS ((alcM m h sz al fr).1).rooms : Int) + (cntL c1_LI ((alcM m h sz al fr).1).log : Int) < 0 := by omega
  have mc0 : ok_hdMl ((Ml.mk (((alcM m h sz al fr).1).c) (mk_RmS ((alcM m h sz al fr).1).rooms (1)) (mk_LI ((alcM m h sz al fr).1).log (1 + (cntL c1_RmS ((alcM m h sz al fr).1).rooms : Int)))), 1) := ⟨⟨okqmk_RmS mq0, by dsimp only; omega, by dsimp only; simp only [ctmk_RmS, ctmk_LI]; omega⟩, ⟨okqmk_LI mq1, by dsimp only; omega, by dsimp only; simp only [ctmk_RmS, ctmk_LI]; omega⟩⟩
  have dm_hdMl := dm_hdMl mc0
  have iv_hdMl := iv_hdMl mc0
  have hv0 : f_hdMl ((Ml.mk (((alcM m h sz al fr).1).c) (mk_RmS ((alcM m h sz al fr).1).rooms (1)) (mk_LI ((alcM m h sz al fr).1).log (1 + (cntL c1_RmS ((alcM m h sz al fr).1).rooms : Int)))), 1) = 1 + (cntL c1_RmS ((alcM m h sz al fr).1).rooms : Int) + (cntL c1_LI ((alcM m h sz al fr).1).log : Int) := by simp [f_hdMl, ctmk_RmS, ctmk_LI, mkmk_RmS, mkmk_LI]
  dsimp only at dm_hdMl iv_hdMl
  have fx := And.intro (y_SzMl e0) (And.intro (decide_eq_false f0) (And.intro @d_ToMl (And.intro @d_sEagerAlloc (And.intro @d_iEagerAlloc (And.intro @d_EqMl (And.intro (decide_eq_false hkm) (And.intro (decide_eq_false mn1) (And.intro (decide_eq_false mn2) (And.intro @hv0 (And.intro @d_mkRmS (And.intro @d_ctRmS (And.intro @beq_mkRmS (And.intro @d_mkLI (And.intro @d_ctLI @beq_mkLI))))))))))))))
  rw [atP_seq (p := []) (q0 := [0]) (q1 := [1]) (by kernel_rfl) rfl rfl]
  rw [sg_xEagerAlloc_0]
  try simp (implicitDefEqProofs := false) only [rsx, Ml.cs, Hd.cs, fx]
  rw [atP_seq (p := [1]) (q0 := [1, 0]) (q1 := [1, 1]) (by kernel_rfl) rfl rfl]
  rw [sg_xEagerAlloc_1]
  try simp (implicitDefEqProofs := false) only [rsx, Ml.cs, Hd.cs, fx]
  rw [atP_seq (p := [1, 1]) (q0 := [1, 1, 0]) (q1 := [1, 1, 1]) (by kernel_rfl) rfl rfl]
  rw [sg_xEagerAlloc_2]
  try simp (implicitDefEqProofs := false) only [rsx, Ml.cs, Hd.cs, fx]
  rw [entK_of (dm_SzMl y0) (iv_SzMl y0)]
  try simp (implicitDefEqProofs := false) only [rsx, Ml.cs, Hd.cs, fx]
  rw [atP_seq (p := [1, 1, 1]) (q0 := [1, 1, 1, 0]) (q1 := [1, 1, 1, 1]) (by kernel_rfl) rfl rfl]
  rw [sg_xEagerAlloc_3]
  try simp (implicitDefEqProofs := false) only [rsx, Ml.cs, Hd.cs, fx]
  rw [atP_seq (p := [1, 1, 1, 1]) (q0 := [1, 1, 1, 1, 0]) (q1 := [1, 1, 1, 1, 1]) (by kernel_rfl) rfl rfl]
  rw [sg_xEagerAlloc_4]
  try simp (implicitDefEqProofs := false) only [rsx, Ml.cs, Hd.cs, fx]
  rw [entK_of (dm_ToMl g0) (iv_ToMl g0)]
  try simp (implicitDefEqProofs := false) only [rsx, Ml.cs, Hd.cs, fx]
  rw [entK_of (dm_sEagerAlloc c0) (iv_sEagerAlloc c0)]
  try simp (implicitDefEqProofs := false) only [rsx, Ml.cs, Hd.cs, fx]
  rw [atP_seq (p := [1, 1, 1, 1, 1]) (q0 := [1, 1, 1, 1, 1, 0]) (q1 := [1, 1, 1, 1, 1, 1]) (by kernel_rfl) rfl rfl]
  rw [sg_xEagerAlloc_5]
  try simp (implicitDefEqProofs := false) only [rsx, Ml.cs, Hd.cs, fx]
  rw [entK_of (dm_ToMl g0) (iv_ToMl g0)]
  try simp (implicitDefEqProofs := false) only [rsx, Ml.cs, Hd.cs, fx]
  rw [atP_seq (p := [1, 1, 1, 1, 1, 1]) (q0 := [1, 1, 1, 1, 1, 1, 0]) (q1 := [1, 1, 1, 1, 1, 1, 1]) (by kernel_rfl) rfl rfl]
  rw [sg_xEagerAlloc_6]
  try simp (implicitDefEqProofs := false) only [rsx, Ml.cs, Hd.cs, fx]
  rw [entK_of (dm_iEagerAlloc c1) (iv_iEagerAlloc c1)]
  try simp (implicitDefEqProofs := false) only [rsx, Ml.cs, Hd.cs, fx]
  rw [atP_seq (p := [1, 1, 1, 1, 1, 1, 1]) (q0 := [1, 1, 1, 1, 1, 1, 1, 0]) (q1 := [1, 1, 1, 1, 1, 1, 1, 1]) (by kernel_rfl) rfl rfl]
  rw [sg_xEagerAlloc_7]
  try simp (implicitDefEqProofs := false) only [rsx, Ml.cs, Hd.cs, fx]
  rw [entK_of (dm_EqMl cq) (iv_EqMl cq)]
  try simp (implicitDefEqProofs := false) only [rsx, Ml.cs, Hd.cs, fx]
  rw [atP_seq (p := [1, 1, 1, 1, 1, 1, 1, 1]) (q0 := [1, 1, 1, 1, 1, 1, 1, 1, 0]) (q1 := [1, 1, 1, 1, 1, 1, 1, 1, 1]) (by kernel_rfl) rfl rfl]
  rw [sg_xEagerAlloc_8]
  try simp (implicitDefEqProofs := false) only [rsx, Ml.cs, Hd.cs, fx]
  rw [entK_of (dm_ToMl g0) (iv_ToMl g0)]
  try simp (implicitDefEqProofs := false) only [rsx, Ml.cs, Hd.cs, fx]
  rw [entK_of (dm_EqMl c2) (iv_EqMl c2)]
  try simp (implicitDefEqProofs := false) only [rsx, Ml.cs, Hd.cs, fx]
  rw [atP_seq (p := [1, 1, 1, 1, 1, 1, 1, 1, 1]) (q0 := [1, 1, 1, 1, 1, 1, 1, 1, 1, 0]) (q1 := [1, 1, 1, 1, 1, 1, 1, 1, 1, 1]) (by kernel_rfl) rfl rfl]
  rw [sg_xEagerAlloc_9]
  try simp (implicitDefEqProofs := false) only [rsx, Ml.cs, Hd.cs, fx]
  rw [atP_seq (p := [1, 1, 1, 1, 1, 1, 1, 1, 1, 1]) (q0 := [1, 1, 1, 1, 1, 1, 1, 1, 1, 1, 0]) (q1 := [1, 1, 1, 1, 1, 1, 1, 1, 1, 1, 1]) (by kernel_rfl) rfl rfl]
  rw [sg_xEagerAlloc_10]
  try simp (implicitDefEqProofs := false) only [rsx, Ml.cs, Hd.cs, fx]
  rw [entK_of (dm_mkRmS hk0) (iv_mkRmS hk0)]
  try simp (implicitDefEqProofs := false) only [rsx, Ml.cs, Hd.cs, fx]
  rw [entK_of (dm_mkLI hk1) (iv_mkLI hk1)]
  try simp (implicitDefEqProofs := false) only [rsx, Ml.cs, Hd.cs, fx]
  rw [atP_seq (p := [1, 1, 1, 1, 1, 1, 1, 1, 1, 1, 1]) (q0 := [1, 1, 1, 1, 1, 1, 1, 1, 1, 1, 1, 0]) (q1 := [1, 1, 1, 1, 1, 1, 1, 1, 1, 1, 1, 1]) (by kernel_rfl) rfl rfl]
  rw [sg_xEagerAlloc_11]
  try simp (implicitDefEqProofs := false) only [rsx, Ml.cs, Hd.cs, fx]
  rw [entK_of (dm_EqMl cq) (iv_EqMl cq)]
  try simp (implicitDefEqProofs := false) only [rsx, Ml.cs, Hd.cs, fx]
  rw [atP_seq (p := [1, 1, 1, 1, 1, 1, 1, 1, 1, 1, 1, 1]) (q0 := [1, 1, 1, 1, 1, 1, 1, 1, 1, 1, 1, 1, 0]) (q1 := [1, 1, 1, 1, 1, 1, 1, 1, 1, 1, 1, 1, 1]) (by kernel_rfl) rfl rfl]
  rw [sg_xEagerAlloc_12]
  try simp (implicitDefEqProofs := false) only [rsx, Ml.cs, Hd.cs, fx]
  rw [atP_seq (p := [1, 1, 1, 1, 1, 1, 1, 1, 1, 1, 1, 1, 1]) (q0 := [1, 1, 1, 1, 1, 1, 1, 1, 1, 1, 1, 1, 1, 0]) (q1 := [1, 1, 1, 1, 1, 1, 1, 1, 1, 1, 1, 1, 1, 1]) (by kernel_rfl) rfl rfl]
  rw [sg_xEagerAlloc_13]
  try simp (implicitDefEqProofs := false) only [rsx, Ml.cs, Hd.cs, fx]
  rw [entK_of (dm_mkRmS mh0) (iv_mkRmS mh0)]
  try simp (implicitDefEqProofs := false) only [rsx, Ml.cs, Hd.cs, fx]
  rw [entK_of (dm_mkLI mh1) (iv_mkLI mh1)]
  try simp (implicitDefEqProofs := false) only [rsx, Ml.cs, Hd.cs, fx]
  rw [atP_seq (p := [1, 1, 1, 1, 1, 1, 1, 1, 1, 1, 1, 1, 1, 1]) (q0 := [1, 1, 1, 1, 1, 1, 1, 1, 1, 1, 1, 1, 1, 1, 0]) (q1 := [1, 1, 1, 1, 1, 1, 1, 1, 1, 1, 1, 1, 1, 1, 1]) (by kernel_rfl) rfl rfl]
  rw [sg_xEagerAlloc_14]
  try simp (implicitDefEqProofs := false) only [rsx, Ml.cs, Hd.cs, fx]
  rw [atP_seq (p := [1, 1, 1, 1, 1, 1, 1, 1, 1, 1, 1, 1, 1, 1, 1]) (q0 := [1, 1, 1, 1, 1, 1, 1, 1, 1, 1, 1, 1, 1, 1, 1, 0]) (q1 := [1, 1, 1, 1, 1, 1, 1, 1, 1, 1, 1, 1, 1, 1, 1, 1]) (by kernel_rfl) rfl rfl]
  rw [sg_xEagerAlloc_15]
  try simp (implicitDefEqProofs := false) only [rsx, Ml.cs, Hd.cs, fx]
  rw [entK_of dm_hdMl iv_hdMl]
  try simp (implicitDefEqProofs := false) only [rsx, Ml.cs, Hd.cs, fx]
  rw [atP_seq (p := [1, 1, 1, 1, 1, 1, 1, 1, 1, 1, 1, 1, 1, 1, 1, 1]) (q0 := [1, 1, 1, 1, 1, 1, 1, 1, 1, 1, 1, 1, 1, 1, 1, 1, 0]) (q1 := [1, 1, 1, 1, 1, 1, 1, 1, 1, 1, 1, 1, 1, 1, 1, 1, 1]) (by kernel_rfl) rfl rfl]
  rw [sg_xEagerAlloc_16]
  try simp (implicitDefEqProofs := false) only [rsx, Ml.cs, Hd.cs, fx]
  rw [atP_seq (p := [1, 1, 1, 1, 1, 1, 1, 1, 1, 1, 1, 1, 1, 1, 1, 1, 1]) (q0 := [1, 1, 1, 1, 1, 1, 1, 1, 1, 1, 1, 1, 1, 1, 1, 1, 1, 0]) (q1 := [1, 1, 1, 1, 1, 1, 1, 1, 1, 1, 1, 1, 1, 1, 1, 1, 1, 1]) (by kernel_rfl) rfl rfl]
  rw [sg_xEagerAlloc_17]
  try simp (implicitDefEqProofs := false) only [rsx, Ml.cs, Hd.cs, fx]
  rw [atP_seq (p := [1, 1, 1, 1, 1, 1, 1, 1, 1, 1, 1, 1, 1, 1, 1, 1, 1, 1]) (q0 := [1, 1, 1, 1, 1, 1, 1, 1, 1, 1, 1, 1, 1, 1, 1, 1, 1, 1, 0]) (q1 := [1, 1, 1, 1, 1, 1, 1, 1, 1, 1, 1, 1, 1, 1, 1, 1, 1, 1, 1]) (by kernel_rfl) rfl rfl]
  rw [sg_xEagerAlloc_18]
  try simp (implicitDefEqProofs := false) only [rsx, Ml.cs, Hd.cs, fx]
  rw [entK_of (dm_ToMl g0) (iv_ToMl g0)]
  try simp (implicitDefEqProofs := false) only [rsx, Ml.cs, Hd.cs, fx]
  rw [entK_of (dm_iEagerAlloc c1) (iv_iEagerAlloc c1)]
  try simp (implicitDefEqProofs := false) only [rsx, Ml.cs, Hd.cs, fx]
  rw [atP_seq (p := [1, 1, 1, 1, 1, 1, 1, 1, 1, 1, 1, 1, 1, 1, 1, 1, 1, 1, 1]) (q0 := [1, 1, 1, 1, 1, 1, 1, 1, 1, 1, 1, 1, 1, 1, 1, 1, 1, 1, 1, 0]) (q1 := [1, 1, 1, 1, 1, 1, 1, 1, 1, 1, 1, 1, 1, 1, 1, 1, 1, 1, 1, 1]) (by kernel_rfl) rfl rfl]
  rw [sg_xEagerAlloc_19]
  try simp (implicitDefEqProofs := false) only [rsx, Ml.cs, Hd.cs, fx]
  rw [entK_of (dm_EqMl cq) (iv_EqMl cq)]
  try simp (implicitDefEqProofs := false) only [rsx, Ml.cs, Hd.cs, fx]
  rw [atP_seq (p := [1, 1, 1, 1, 1, 1, 1, 1, 1, 1, 1, 1, 1, 1, 1, 1, 1, 1, 1, 1]) (q0 := [1, 1, 1, 1, 1, 1, 1, 1, 1, 1, 1, 1, 1, 1, 1, 1, 1, 1, 1, 1, 0]) (q1 := [1, 1, 1, 1, 1, 1, 1, 1, 1, 1, 1, 1, 1, 1, 1, 1, 1, 1, 1, 1, 1]) (by kernel_rfl) rfl rfl]
  rw [sg_xEagerAlloc_20]
  try simp (implicitDefEqProofs := false) only [rsx, Ml.cs, Hd.cs, fx]
  rw [atP_seq (p := [1, 1, 1, 1, 1, 1, 1, 1, 1, 1, 1, 1, 1, 1, 1, 1, 1, 1, 1, 1, 1]) (q0 := [1, 1, 1, 1, 1, 1, 1, 1, 1, 1, 1, 1, 1, 1, 1, 1, 1, 1, 1, 1, 1, 0]) (q1 := [1, 1, 1, 1, 1, 1, 1, 1, 1, 1, 1, 1, 1, 1, 1, 1, 1, 1, 1, 1, 1, 1]) (by kernel_rfl) rfl rfl]
  rw [sg_xEagerAlloc_21]
  try simp (implicitDefEqProofs := false) only [rsx, Ml.cs, Hd.cs, fx]
  rw [entK_of dm_hdMl iv_hdMl]
  try simp (implicitDefEqProofs := false) only [rsx, Ml.cs, Hd.cs, fx]
  rw [atP_seq (p := [1, 1, 1, 1, 1, 1, 1, 1, 1, 1, 1, 1, 1, 1, 1, 1, 1, 1, 1, 1, 1, 1]) (q0 := [1, 1, 1, 1, 1, 1, 1, 1, 1, 1, 1, 1, 1, 1, 1, 1, 1, 1, 1, 1, 1, 1, 0]) (q1 := [1, 1, 1, 1, 1, 1, 1, 1, 1, 1, 1, 1, 1, 1, 1, 1, 1, 1, 1, 1, 1, 1, 1]) (by kernel_rfl) rfl rfl]
  rw [sg_xEagerAlloc_22]
  try simp (implicitDefEqProofs := false) only [rsx, Ml.cs, Hd.cs, fx]
  rw [atP_seq (p := [1, 1, 1, 1, 1, 1, 1, 1, 1, 1, 1, 1, 1, 1, 1, 1, 1, 1, 1, 1, 1, 1, 1]) (q0 := [1, 1, 1, 1, 1, 1, 1, 1, 1, 1, 1, 1, 1, 1, 1, 1, 1, 1, 1, 1, 1, 1, 1, 0]) (q1 := [1, 1, 1, 1, 1, 1, 1, 1, 1, 1, 1, 1, 1, 1, 1, 1, 1, 1, 1, 1, 1, 1, 1, 1]) (by kernel_rfl) rfl rfl]
  rw [sg_xEagerAlloc_23]
  try simp (implicitDefEqProofs := false) only [rsx, Ml.cs, Hd.cs, fx]
  rw [atP_seq (p := [1, 1, 1, 1, 1, 1, 1, 1, 1, 1, 1, 1, 1, 1, 1, 1, 1, 1, 1, 1, 1, 1, 1, 1]) (q0 := [1, 1, 1, 1, 1, 1, 1, 1, 1, 1, 1, 1, 1, 1, 1, 1, 1, 1, 1, 1, 1, 1, 1, 1, 0]) (q1 := [1, 1, 1, 1, 1, 1, 1, 1, 1, 1, 1, 1, 1, 1, 1, 1, 1, 1, 1, 1, 1, 1, 1, 1, 1]) (by kernel_rfl) rfl rfl]
  rw [sg_xEagerAlloc_24]
  try simp (implicitDefEqProofs := false) only [rsx, Ml.cs, Hd.cs, fx]
  rw [sg_xEagerAlloc_25]
  try simp (implicitDefEqProofs := false) only [rsx, Ml.cs, Hd.cs, fx]
  rfl
theorem sd_xEagerAlloc (m : Ml) (h : Hd) (sz : Int) (al : Int) (fr : Bool) (hm : z_Ml m) (hh : z_Hd h) (hsz : (Lit.int .i64 sz).wf = true) (hal : (Lit.int .i64 al).wf = true) : Sound prog i_xEagerAlloc [aR m.cs, aR h.cs, aI sz, aI al, aB fr] (erB 5 true).1 (erB 5 true).2 :=
  body_sound (φ := (tabS [(i_SzMl, e_SzMl), (i_ToMl, e_ToMl), (i_toHd, e_toHd), (i_sEagerAlloc, e_sEagerAlloc), (i_iEagerAlloc, e_iEagerAlloc), (i_EqMl, e_EqMl), (i_mkMl, e_mkMl), (i_hdMl, e_hdMl)])) (tabS_cons s_SzMl (tabS_cons s_ToMl (tabS_cons s_toHd (tabS_cons s_sEagerAlloc (tabS_cons s_iEagerAlloc (tabS_cons s_EqMl (tabS_cons s_mkMl (tabS_cons s_hdMl tabS_nil)))))))) mixed (kp := kp_xEagerAlloc) (n := 0) func14 (c := bodyOf F_xEagerAlloc) (by kernel_rfl) (body_xEagerAlloc m h sz al fr hm hh hsz hal 0) (name_ok (by kernel_rfl))
end Go.Mach.F
end
