/- Copies of rooms: equations. Conditions: none. -/
import Derived.Test.YtkbhcdenfigpoaaIa
import Derived.Test.YtkbhcdenfigpoaaCo
import Derived.Test.YtkbhcdenfigpoaaSe
set_option linter.all false
set_option maxRecDepth 100000
set_option maxHeartbeats 40000000
namespace Go.Mach.F
open Go Go.Mach Go.Proofs.Try
--=set_option maxRecDepth 100000
def ok_iRoom (x : Rm) : Prop := ok_HdS x.kids ∧ ok_SfS x.things ∧ ok_LI x.tags
def ea_iRoom (x : Rm) : List Arg := [aR x.cs]
def f_iRoom (x : Rm) : Rm := x
noncomputable def e_iRoom : Ent := ent [] ok_iRoom ea_iRoom (fun r => erR 1 r.cs) f_iRoom
theorem ea_iRoom_inj (x y : Rm) (h : ea_iRoom x = ea_iRoom y) : x = y := by
  simp only [ea_iRoom, List.cons.injEq, and_true, true_and] at h
  exact Rm.cs_ext (aR_inj h)
theorem dm_iRoom {r : Rm} (h : ok_iRoom r) : dom ok_iRoom ea_iRoom [(0, true, [C.tr false (T.int IntKind.i64 r.h.slot), C.tr false (T.int IntKind.i64 r.h.gen), C.tr false (T.int IntKind.i64 r.up.slot), C.tr false (T.int IntKind.i64 r.up.gen), C.tr false (T.arr 2 r.kids.length (atL Hd.cs r.kids)), C.tr false (T.int IntKind.i64 r.ep), C.tr false (T.int IntKind.i64 r.chunks), C.tr false (T.bool r.cur), C.tr false (T.int IntKind.i64 r.bump), C.tr false (T.arr 1 r.things.length (atL Sf.cs r.things)), C.tr false (T.arr 1 r.tags.length (atL rowI r.tags))])] = true := dom_ea (ea := ea_iRoom) (x := r) h
theorem iv_iRoom {r : Rm} (h : ok_iRoom r) : inv ok_iRoom ea_iRoom [(0, true, [C.tr false (T.int IntKind.i64 r.h.slot), C.tr false (T.int IntKind.i64 r.h.gen), C.tr false (T.int IntKind.i64 r.up.slot), C.tr false (T.int IntKind.i64 r.up.gen), C.tr false (T.arr 2 r.kids.length (atL Hd.cs r.kids)), C.tr false (T.int IntKind.i64 r.ep), C.tr false (T.int IntKind.i64 r.chunks), C.tr false (T.bool r.cur), C.tr false (T.int IntKind.i64 r.bump), C.tr false (T.arr 1 r.things.length (atL Sf.cs r.things)), C.tr false (T.arr 1 r.tags.length (atL rowI r.tags))])] = r := inv_ea ea_iRoom_inj (x := r) h
theorem d_iRoom (r : Rm) : f_iRoom r = r := rfl
def i_iRoom : Nat := 88
noncomputable abbrev F_iRoom : Func := f88
def kp_iRoom : List (Nat × List Nat) := [(0, [4, 5, 8, 9, 128]), (1, [4, 5, 8, 9, 12, 128]), (2, [4, 5, 8, 9, 12, 28, 32, 36, 40, 128]), (3, [4, 5, 8, 9, 12, 28, 32, 36, 40, 44, 128]), (4, [4, 5, 8, 9, 12, 20, 21, 28, 32, 36, 40, 48, 52, 128]), (5, [4, 5, 8, 9, 12, 28, 32, 36, 40, 128]), (6, [4, 5, 8, 9, 12, 28, 32, 36, 40, 128]), (7, [4, 5, 8, 9, 128]), (8, [4, 5, 8, 9, 128])]
def ts_iRoom : List Nat := [0]
def st_iRoom_1 (r : Rm) (nx12 : Nat) (fx12 : Nat → Nat → T) (x40 : Int) : St := [(4, ⟨z0, [(false, [(C.pt (Pt.ptr 5 0 [] 11 0 0))])]⟩), (5, ⟨z0, [(true, [.tr true (T.int IntKind.i64 r.h.1), .tr true (T.int IntKind.i64 r.h.2), .tr true (T.int IntKind.i64 r.up.1), .tr true (T.int IntKind.i64 r.up.2), .tr false (eL 2 Hd.cs r.3), .tr true (T.int IntKind.i64 r.4), .tr true (T.int IntKind.i64 r.5), .tr true (T.bool r.6), .tr true (T.int IntKind.i64 r.7), .tr false (eL 1 Sf.cs r.8), .tr false (eL 1 rowI r.9)])]⟩), (8, ⟨z0, [(false, [(C.pt (Pt.ptr 9 0 [] 11 0 0))])]⟩), (9, ⟨z0, [(true, [.tr true (T.int IntKind.i64 0), .tr true (T.int IntKind.i64 0), .tr true (T.int IntKind.i64 0), .tr true (T.int IntKind.i64 0), .tr true (.arr (2) (0) (fun x x_1 => T.hole)), .tr true (T.int IntKind.i64 0), .tr true (T.int IntKind.i64 0), .tr true (T.bool false), .tr true (T.int IntKind.i64 0), .tr true (.arr (1) (0) (fun x x_1 => T.hole)), .tr true (.arr (1) (0) (fun x x_1 => T.hole))])]⟩), (12, ⟨z0, [(false, [.tr true (.arr (1) (nx12) (fx12))])]⟩), (28, ⟨z0, [(false, [(C.pt (Pt.ptr 5 0 [] 11 0 9))])]⟩), (32, ⟨z0, [(false, [.tr false (eL 1 Sf.cs r.8)])]⟩), (36, ⟨z0, [(false, [.tr true (T.int IntKind.i64 (↑r.8.length : Int))])]⟩), (40, ⟨z0, [(false, [.tr true (T.int IntKind.i64 x40)])]⟩)]
def ex_iRoom_1_1 (r : Rm) (nx12 : Nat) (fx12 : Nat → Nat → T) (x40 : Int) : St := [(4, ⟨z0, [(false, [(C.pt (Pt.ptr 5 0 [] 11 0 0))])]⟩), (5, ⟨z0, [(true, [.tr true (T.int IntKind.i64 r.h.1), .tr true (T.int IntKind.i64 r.h.2), .tr true (T.int IntKind.i64 r.up.1), .tr true (T.int IntKind.i64 r.up.2), .tr false (eL 2 Hd.cs r.3), .tr true (T.int IntKind.i64 r.4), .tr true (T.int IntKind.i64 r.5), .tr true (T.bool r.6), .tr true (T.int IntKind.i64 r.7), .tr false (eL 1 Sf.cs r.8), .tr false (eL 1 rowI r.9)])]⟩), (8, ⟨z0, [(false, [(C.pt (Pt.ptr 9 0 [] 11 0 0))])]⟩), (9, ⟨z0, [(true, [.tr true (T.int IntKind.i64 0), .tr true (T.int IntKind.i64 0), .tr true (T.int IntKind.i64 0), .tr true (T.int IntKind.i64 0), .tr true (.arr (2) (0) (fun x x_1 => T.hole)), .tr true (T.int IntKind.i64 0), .tr true (T.int IntKind.i64 0), .tr true (T.bool false), .tr true (T.int IntKind.i64 0), .tr true (.arr (1) (0) (fun x x_1 => T.hole)), .tr true (.arr (1) (0) (fun x x_1 => T.hole))])]⟩), (12, ⟨z0, [(false, [.tr true (.arr (1) (nx12) (fx12))])]⟩), (28, ⟨z0, [(false, [(C.pt (Pt.ptr 5 0 [] 11 0 9))])]⟩), (32, ⟨z0, [(false, [.tr false (eL 1 Sf.cs r.8)])]⟩), (36, ⟨z0, [(false, [.tr true (T.int IntKind.i64 (↑r.8.length : Int))])]⟩), (40, ⟨z0, [(false, [.tr true (T.int IntKind.i64 x40)])]⟩), (44, ⟨z0, []⟩)]
theorem round_iRoom_1 (r : Rm) (nx12 : Nat) (fx12 : Nat → Nat → T) (x40 : Int) (n : Nat) (K : Ex → St → Res) : roundAt prog (tabS [(i_clB, e_clB), (i_clH, e_clH), (i_clI, e_clI)]) kp_iRoom F_iRoom [1, 1, 0, 1, 0] n (st_iRoom_1 r nx12 fx12 x40) K = (
 bif decide (x40 < (↑r.8.length : Int)) then
  gd (decide (0 ≤ x40) && (x40.toNat.blt r.8.length && true)) <|
  gd ((atL Sf.cs r.8 x40.toNat 0).isArr && (atL Sf.cs r.8 x40.toNat 0).wd.beq 1) <|
  entK ok_clB ea_clB (f_clB) [(0, false, [C.tr false (T.arr 1 (atL Sf.cs r.8 x40.toNat 0).ln (atL Sf.cs r.8 x40.toNat 0).fn)])] fun (r1 : List UInt8) =>
  gd (r1.length.ble r1.length && true) <|
  gd (r1.length.ble r1.length && true) <|
  gd (nx12.ble nx12 && true) <|
  gd (((nx12 + 1) * 24).ble 70368744177664 && (nx12 + 1).ble 70368744177664) <|
  gd ((nx12 + 1).ble (nx12 + 1) && true) <|
  K .normal (st_iRoom_1 r (nx12 + 1) (appF nx12 fx12 (rowsT [[T.arr 1 r1.length (atL rowB r1)]])) (IntKind.i64.wrap (x40 + 1)))
 else
 K (.exit 0) (ex_iRoom_1_1 r nx12 fx12 x40)) := by kernel_rfl
theorem post_iRoom_1_1 (r : Rm) (nx12 : Nat) (fx12 : Nat → Nat → T) (x40 : Int) (n : Nat) : contAt prog (tabS [(i_clB, e_clB), (i_clH, e_clH), (i_clI, e_clI)]) kp_iRoom F_iRoom ts_iRoom [1, 1, 0, 1, 0] [] n (.exit 0) (ex_iRoom_1_1 r nx12 fx12 x40) = (
 entK ok_clH ea_clH (f_clH) [(0, false, [C.tr false (eL 2 Hd.cs r.3)])] fun (r2 : List Hd) =>
 entK ok_clI ea_clI (f_clI) [(0, false, [C.tr false (eL 1 rowI r.9)])] fun (r3 : List Int) =>
 gd (r2.length.ble r2.length && true) <|
 gd (nx12.ble nx12 && true) <|
 gd (r3.length.ble r3.length && true) <|
 gd (r2.length.ble r2.length && true) <|
 gd (nx12.ble nx12 && true) <|
 gd (r3.length.ble r3.length && true) <|
 gd (r2.length.ble r2.length && true) <|
 gd (nx12.ble nx12 && true) <|
 gd (r3.length.ble r3.length && true) <|
 some ([(true, [.tr true (T.int IntKind.i64 r.h.1), .tr true (T.int IntKind.i64 r.h.2), .tr true (T.int IntKind.i64 r.up.1), .tr true (T.int IntKind.i64 r.up.2), .tr true (.arr (2) (r2.length) ((eL 2 Hd.cs r2).fn)), .tr true (T.int IntKind.i64 r.4), .tr true (T.int IntKind.i64 r.5), .tr true (T.bool r.6), .tr true (T.int IntKind.i64 r.7), .tr true (.arr (1) (nx12) (fx12)), .tr true (.arr (1) (r3.length) (atL rowI r3))])], [(false, [])])) := by kernel_rfl
theorem pre_iRoom (r : Rm) (n : Nat) : body prog (tabS [(i_clB, e_clB), (i_clH, e_clH), (i_clI, e_clI)]) kp_iRoom n F_iRoom [aR r.cs] = (
 loopAt prog (tabS [(i_clB, e_clB), (i_clH, e_clH), (i_clI, e_clI)]) kp_iRoom F_iRoom [1, 1, 0, 1, 0] n n (st_iRoom_1 r (0) (rowsT []) (0)) (contAt prog (tabS [(i_clB, e_clB), (i_clH, e_clH), (i_clI, e_clI)]) kp_iRoom F_iRoom ts_iRoom [1, 1, 0, 1, 0] [] n)) := by kernel_rfl
def ok_sRoom (x : Rm) : Prop := ok_HdS x.kids ∧ ok_SfS x.things ∧ ok_LI x.tags
def ea_sRoom (x : Rm) : List Arg := [aR x.cs]
def f_sRoom (x : Rm) : Rm := x
noncomputable def e_sRoom : Ent := ent [] ok_sRoom ea_sRoom (fun r => erR 1 r.cs) f_sRoom
theorem ea_sRoom_inj (x y : Rm) (h : ea_sRoom x = ea_sRoom y) : x = y := by
  simp only [ea_sRoom, List.cons.injEq, and_true, true_and] at h
  exact Rm.cs_ext (aR_inj h)
theorem dm_sRoom {r : Rm} (h : ok_sRoom r) : dom ok_sRoom ea_sRoom [(0, true, [C.tr false (T.int IntKind.i64 r.h.slot), C.tr false (T.int IntKind.i64 r.h.gen), C.tr false (T.int IntKind.i64 r.up.slot), C.tr false (T.int IntKind.i64 r.up.gen), C.tr false (T.arr 2 r.kids.length (atL Hd.cs r.kids)), C.tr false (T.int IntKind.i64 r.ep), C.tr false (T.int IntKind.i64 r.chunks), C.tr false (T.bool r.cur), C.tr false (T.int IntKind.i64 r.bump), C.tr false (T.arr 1 r.things.length (atL Sf.cs r.things)), C.tr false (T.arr 1 r.tags.length (atL rowI r.tags))])] = true := dom_ea (ea := ea_sRoom) (x := r) h
theorem iv_sRoom {r : Rm} (h : ok_sRoom r) : inv ok_sRoom ea_sRoom [(0, true, [C.tr false (T.int IntKind.i64 r.h.slot), C.tr false (T.int IntKind.i64 r.h.gen), C.tr false (T.int IntKind.i64 r.up.slot), C.tr false (T.int IntKind.i64 r.up.gen), C.tr false (T.arr 2 r.kids.length (atL Hd.cs r.kids)), C.tr false (T.int IntKind.i64 r.ep), C.tr false (T.int IntKind.i64 r.chunks), C.tr false (T.bool r.cur), C.tr false (T.int IntKind.i64 r.bump), C.tr false (T.arr 1 r.things.length (atL Sf.cs r.things)), C.tr false (T.arr 1 r.tags.length (atL rowI r.tags))])] = r := inv_ea ea_sRoom_inj (x := r) h
theorem d_sRoom (r : Rm) : f_sRoom r = r := rfl
def i_sRoom : Nat := 86
noncomputable abbrev F_sRoom : Func := f86
def kp_sRoom : List (Nat × List Nat) := [(0, [4, 5, 8, 9, 12, 13, 20, 156]), (1, [4, 5, 8, 9, 12, 13, 20, 156]), (2, [4, 5, 8, 9, 12, 13, 20, 156]), (3, [4, 5, 8, 9, 12, 13, 20, 156]), (4, [4, 5, 8, 9, 12, 13, 20, 156]), (5, [4, 5, 8, 9, 12, 13, 16, 20, 156]), (6, [4, 5, 8, 9, 12, 13, 16, 20, 88, 156]), (7, [4, 5, 8, 9, 12, 13, 16, 20, 156]), (8, [4, 5, 8, 9, 12, 13, 16, 20, 156]), (9, [4, 5, 8, 9, 12, 13, 20, 156])]
def ts_sRoom : List Nat := [0]
def st_sRoom_1 (r : Rm) (nx13_9 : Nat) (fx13_9 : Nat → Nat → T) (x16 : Int) : St := [(4, ⟨z0, [(false, [(C.pt (Pt.ptr 5 0 [] 11 0 0))])]⟩), (5, ⟨z0, [(true, [.tr true (T.int IntKind.i64 r.h.1), .tr true (T.int IntKind.i64 r.h.2), .tr true (T.int IntKind.i64 r.up.1), .tr true (T.int IntKind.i64 r.up.2), .tr false (eL 2 Hd.cs r.3), .tr true (T.int IntKind.i64 r.4), .tr true (T.int IntKind.i64 r.5), .tr true (T.bool r.6), .tr true (T.int IntKind.i64 r.7), .tr false (eL 1 Sf.cs r.8), .tr false (eL 1 rowI r.9)])]⟩), (8, ⟨z0, [(false, [(C.pt (Pt.ptr 9 0 [] 11 0 0))])]⟩), (9, ⟨z0, [(true, [.tr true (T.int IntKind.i64 0), .tr true (T.int IntKind.i64 0), .tr true (T.int IntKind.i64 0), .tr true (T.int IntKind.i64 0), .tr true (.arr (2) (0) (fun x x_1 => T.hole)), .tr true (T.int IntKind.i64 0), .tr true (T.int IntKind.i64 0), .tr true (T.bool false), .tr true (T.int IntKind.i64 0), .tr true (.arr (1) (0) (fun x x_1 => T.hole)), .tr true (.arr (1) (0) (fun x x_1 => T.hole))])]⟩), (12, ⟨z0, [(false, [(C.pt (Pt.ptr 13 0 [] 11 0 0))])]⟩), (13, ⟨z0, [(true, [.tr true (T.int IntKind.i64 r.h.1), .tr true (T.int IntKind.i64 r.h.2), .tr true (T.int IntKind.i64 r.up.1), .tr true (T.int IntKind.i64 r.up.2), .tr true (.arr (2) (0 + r.3.length) (appF 0 (rowsT []) (plainF (atL Hd.cs r.3)))), .tr true (T.int IntKind.i64 r.4), .tr true (T.int IntKind.i64 r.5), .tr true (T.bool r.6), .tr true (T.int IntKind.i64 r.7), .tr true (.arr (1) (nx13_9) (fx13_9)), .tr true (.arr (1) (0 + r.9.length) (appF 0 (rowsT []) (plainF (atL rowI r.9))))])]⟩), (16, ⟨z0, [(false, [.tr true (T.int IntKind.i64 x16)])]⟩), (20, ⟨z0, [(true, [.tr true (T.int IntKind.i64 r.h.1), .tr true (T.int IntKind.i64 r.h.2), .tr true (T.int IntKind.i64 r.up.1), .tr true (T.int IntKind.i64 r.up.2), .tr false (eL 2 Hd.cs r.3), .tr true (T.int IntKind.i64 r.4), .tr true (T.int IntKind.i64 r.5), .tr true (T.bool r.6), .tr true (T.int IntKind.i64 r.7), .tr false (eL 1 Sf.cs r.8), .tr false (eL 1 rowI r.9)])]⟩)]
def ex_sRoom_1_1 (r : Rm) (nx13_9 : Nat) (fx13_9 : Nat → Nat → T) (x16 : Int) : St := [(4, ⟨z0, [(false, [(C.pt (Pt.ptr 5 0 [] 11 0 0))])]⟩), (5, ⟨z0, [(true, [.tr true (T.int IntKind.i64 r.h.1), .tr true (T.int IntKind.i64 r.h.2), .tr true (T.int IntKind.i64 r.up.1), .tr true (T.int IntKind.i64 r.up.2), .tr false (eL 2 Hd.cs r.3), .tr true (T.int IntKind.i64 r.4), .tr true (T.int IntKind.i64 r.5), .tr true (T.bool r.6), .tr true (T.int IntKind.i64 r.7), .tr false (eL 1 Sf.cs r.8), .tr false (eL 1 rowI r.9)])]⟩), (8, ⟨z0, [(false, [(C.pt (Pt.ptr 9 0 [] 11 0 0))])]⟩), (9, ⟨z0, [(true, [.tr true (T.int IntKind.i64 0), .tr true (T.int IntKind.i64 0), .tr true (T.int IntKind.i64 0), .tr true (T.int IntKind.i64 0), .tr true (.arr (2) (0) (fun x x_1 => T.hole)), .tr true (T.int IntKind.i64 0), .tr true (T.int IntKind.i64 0), .tr true (T.bool false), .tr true (T.int IntKind.i64 0), .tr true (.arr (1) (0) (fun x x_1 => T.hole)), .tr true (.arr (1) (0) (fun x x_1 => T.hole))])]⟩), (12, ⟨z0, [(false, [(C.pt (Pt.ptr 13 0 [] 11 0 0))])]⟩), (13, ⟨z0, [(true, [.tr true (T.int IntKind.i64 r.h.1), .tr true (T.int IntKind.i64 r.h.2), .tr true (T.int IntKind.i64 r.up.1), .tr true (T.int IntKind.i64 r.up.2), .tr true (.arr (2) (0 + r.3.length) (appF 0 (rowsT []) (plainF (atL Hd.cs r.3)))), .tr true (T.int IntKind.i64 r.4), .tr true (T.int IntKind.i64 r.5), .tr true (T.bool r.6), .tr true (T.int IntKind.i64 r.7), .tr true (.arr (1) (nx13_9) (fx13_9)), .tr true (.arr (1) (0 + r.9.length) (appF 0 (rowsT []) (plainF (atL rowI r.9))))])]⟩), (16, ⟨z0, [(false, [.tr true (T.int IntKind.i64 x16)])]⟩), (20, ⟨z0, [(true, [.tr true (T.int IntKind.i64 r.h.1), .tr true (T.int IntKind.i64 r.h.2), .tr true (T.int IntKind.i64 r.up.1), .tr true (T.int IntKind.i64 r.up.2), .tr false (eL 2 Hd.cs r.3), .tr true (T.int IntKind.i64 r.4), .tr true (T.int IntKind.i64 r.5), .tr true (T.bool r.6), .tr true (T.int IntKind.i64 r.7), .tr false (eL 1 Sf.cs r.8), .tr false (eL 1 rowI r.9)])]⟩), (88, ⟨z0, []⟩)]
theorem round_sRoom_1 (r : Rm) (nx13_9 : Nat) (fx13_9 : Nat → Nat → T) (x16 : Int) (n : Nat) (K : Ex → St → Res) : roundAt prog (tabS []) kp_sRoom F_sRoom [1, 1, 1, 1, 1, 0, 1, 0] n (st_sRoom_1 r nx13_9 fx13_9 x16) K = (
 bif decide (x16 < (↑r.8.length : Int)) then
  gd (decide (0 ≤ x16) && (x16.toNat.blt r.8.length && true)) <|
  gd ((atL Sf.cs r.8 x16.toNat 0).isArr && (atL Sf.cs r.8 x16.toNat 0).wd.beq 1) <|
  gd (((0 + (atL Sf.cs r.8 x16.toNat 0).ln) * 1).ble 70368744177664 &&
  (0 + (atL Sf.cs r.8 x16.toNat 0).ln).ble 70368744177664) <|
  gd ((0 + (atL Sf.cs r.8 x16.toNat 0).ln).ble (0 + (atL Sf.cs r.8 x16.toNat 0).ln) && true) <|
  gd ((0 + (atL Sf.cs r.8 x16.toNat 0).ln).ble (0 + (atL Sf.cs r.8 x16.toNat 0).ln) && true) <|
  gd (nx13_9.ble nx13_9 && true) <|
  gd (((nx13_9 + 1) * 24).ble 70368744177664 && (nx13_9 + 1).ble 70368744177664) <|
  gd ((nx13_9 + 1).ble (nx13_9 + 1) && true) <|
  K .normal (st_sRoom_1 r (nx13_9 + 1) (appF nx13_9 fx13_9
  (rowsT [[T.arr 1 (0 + (atL Sf.cs r.8 x16.toNat 0).ln) (appF 0 (rowsT []) (plainF (atL Sf.cs r.8 x16.toNat 0).fn))]])) (IntKind.i64.wrap (x16 + 1)))
 else
 K (.exit 0) (ex_sRoom_1_1 r nx13_9 fx13_9 x16)) := by kernel_rfl
theorem post_sRoom_1_1 (r : Rm) (nx13_9 : Nat) (fx13_9 : Nat → Nat → T) (x16 : Int) (n : Nat) : contAt prog (tabS []) kp_sRoom F_sRoom ts_sRoom [1, 1, 1, 1, 1, 0, 1, 0] [] n (.exit 0) (ex_sRoom_1_1 r nx13_9 fx13_9 x16) = (
 gd ((0 + r.3.length).ble (0 + r.3.length) && true) <|
 gd (nx13_9.ble nx13_9 && true) <|
 gd ((0 + r.9.length).ble (0 + r.9.length) && true) <|
 gd ((0 + r.3.length).ble (0 + r.3.length) && true) <|
 gd (nx13_9.ble nx13_9 && true) <|
 gd ((0 + r.9.length).ble (0 + r.9.length) && true) <|
 some ([(true, [.tr true (T.int IntKind.i64 r.h.1), .tr true (T.int IntKind.i64 r.h.2), .tr true (T.int IntKind.i64 r.up.1), .tr true (T.int IntKind.i64 r.up.2), .tr true (.arr (2) (0 + r.3.length) (appF 0 (rowsT []) (plainF (atL Hd.cs r.3)))), .tr true (T.int IntKind.i64 r.4), .tr true (T.int IntKind.i64 r.5), .tr true (T.bool r.6), .tr true (T.int IntKind.i64 r.7), .tr true (.arr (1) (nx13_9) (fx13_9)), .tr true (.arr (1) (0 + r.9.length) (appF 0 (rowsT []) (plainF (atL rowI r.9))))])], [(false, [])])) := by kernel_rfl
theorem pre_sRoom (r : Rm) (n : Nat) : body prog (tabS []) kp_sRoom n F_sRoom [aR r.cs] = (
 gd (((0 + r.3.length) * 16).ble 70368744177664 && (0 + r.3.length).ble 70368744177664) <|
 gd ((0 + r.3.length).ble (0 + r.3.length) && true) <|
 gd (((0 + r.9.length) * 8).ble 70368744177664 && (0 + r.9.length).ble 70368744177664) <|
 gd ((0 + r.9.length).ble (0 + r.9.length) && true) <|
 loopAt prog (tabS []) kp_sRoom F_sRoom [1, 1, 1, 1, 1, 0, 1, 0] n n (st_sRoom_1 r (0) (rowsT []) (0)) (contAt prog (tabS []) kp_sRoom F_sRoom ts_sRoom [1, 1, 1, 1, 1, 0, 1, 0] [] n)) := by kernel_rfl
end Go.Mach.F