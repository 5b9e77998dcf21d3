/- Where an object is: equations. Conditions: none. -/
import Derived.Test.YtkbhcdenfigpoaaRj
set_option linter.all false
namespace Go.Mach.F
open Go Go.Mach Go.Proofs.Try
--=set_option maxRecDepth 100000
def refOk (r : Rf) : Bool := ((decide (0 ≤ r.h.slot) && decide (1 ≤ r.h.gen)) && decide (0 ≤ r.ep)) && decide (0 ≤ r.no)
def thg (m : Ml) (r : Rf) : Int × Int := bif refOk r then (bif decide (rof m.rooms r.h < 0) then (-1, 2) else bif decide ((m.rooms.getD (rof m.rooms r.h).toNat zRm).ep = r.ep) && decide (r.no < ((m.rooms.getD (rof m.rooms r.h).toNat zRm).things.length : Int)) then (rof m.rooms r.h, 0) else (-1, 2)) else (-1, 1)
def ok_iThg (x : Ml × Rf) : Prop := x.1.rooms.length ≤ LM
def ea_iThg (x : Ml × Rf) : List Arg := [aR x.1.cs, aR x.2.cs]
def f_iThg (x : Ml × Rf) : Int × Int := thg x.1 x.2
noncomputable def e_iThg : Ent := ent [] ok_iThg ea_iThg (fun (x : Int × Int) => ([oT (.int .i64 x.1), oT (.int .i64 x.2)], [nul, nul])) f_iThg
theorem ea_iThg_inj (x y : Ml × Rf) (h : ea_iThg x = ea_iThg y) : x = y := by
  obtain ⟨m1, r1⟩ := x
  obtain ⟨m2, r2⟩ := y
  simp only [ea_iThg, List.cons.injEq, and_true, true_and] at h
  obtain ⟨e0, e1⟩ := h
  obtain rfl := Ml.cs_ext (aR_inj e0)
  obtain rfl := Rf.cs_ext (aR_inj e1)
  rfl
theorem dm_iThg {m : Ml} {r : Rf} (h : ok_iThg (m, r)) : dom ok_iThg ea_iThg [(0, true, [C.tr false (T.int IntKind.i64 m.c.chunks), C.tr false (T.int IntKind.i64 m.c.size), C.tr false (T.int IntKind.i64 m.c.slots), C.tr false (T.int IntKind.i64 m.c.tax), C.tr false (T.int IntKind.i64 m.c.slice), C.tr false (T.int IntKind.i64 m.c.gens), C.tr false (T.arr 11 m.rooms.length (atL Rm.cs m.rooms)), C.tr false (T.arr 1 m.log.length (atL rowI m.log))]), (0, true, [C.tr false (T.int IntKind.i64 r.h.slot), C.tr false (T.int IntKind.i64 r.h.gen), C.tr false (T.int IntKind.i64 r.ep), C.tr false (T.int IntKind.i64 r.no)])] = true := dom_ea (ea := ea_iThg) (x := (m, r)) h
theorem iv_iThg {m : Ml} {r : Rf} (h : ok_iThg (m, r)) : inv ok_iThg ea_iThg [(0, true, [C.tr false (T.int IntKind.i64 m.c.chunks), C.tr false (T.int IntKind.i64 m.c.size), C.tr false (T.int IntKind.i64 m.c.slots), C.tr false (T.int IntKind.i64 m.c.tax), C.tr false (T.int IntKind.i64 m.c.slice), C.tr false (T.int IntKind.i64 m.c.gens), C.tr false (T.arr 11 m.rooms.length (atL Rm.cs m.rooms)), C.tr false (T.arr 1 m.log.length (atL rowI m.log))]), (0, true, [C.tr false (T.int IntKind.i64 r.h.slot), C.tr false (T.int IntKind.i64 r.h.gen), C.tr false (T.int IntKind.i64 r.ep), C.tr false (T.int IntKind.i64 r.no)])] = (m, r) := inv_ea ea_iThg_inj (x := (m, r)) h
theorem d_iThg (m : Ml) (r : Rf) : f_iThg (m, r) = thg m r := rfl
def i_iThg : Nat := 77
noncomputable abbrev F_iThg : Func := f77
def kp_iThg : List (Nat × List Nat) := [(0, [8, 9, 12, 13, 68, 72, 76, 80, 84, 88, 92, 96, 100, 112, 116, 120, 124, 128, 132, 136, 140, 144, 148]), (1, [8, 9, 12, 13, 36, 68, 72, 76, 80, 84, 88, 92, 96, 100, 112, 116, 120, 124, 128, 132, 136, 140, 144, 148]), (2, [16, 20]), (3, [8, 9, 12, 13, 24, 68, 72, 76, 80, 84, 88, 92, 96, 100, 112, 116, 120, 124, 128, 132, 136, 140, 144, 148]), (4, [24, 152]), (5, [16, 20]), (6, [16, 20])]
def ts_iThg : List Nat := [0, 0]
theorem pre_iThg (m : Ml) (r : Rf) (n : Nat) : body prog (tabS [(i_iROk, e_iROk), (i_iRoomOf, e_iRoomOf)]) kp_iThg n F_iThg [aR m.cs, aR r.cs] = (
 bif decide (0 ≤ r.h.1) then
  bif decide (1 ≤ r.h.2) then
   bif decide (0 ≤ r.2) then
    bif !decide (0 ≤ r.3) then
     some ([(false, [.tr true (T.int IntKind.i64 (-1))]), (false, [.tr true (T.int IntKind.i64 1)])], [(false, []), (false, [])])
    else
    entK ok_iRoomOf ea_iRoomOf (f_iRoomOf) [(0, true,
    [C.tr false (T.int IntKind.i64 m.c.1), C.tr false (T.int IntKind.i64 m.c.2),
      C.tr false (T.int IntKind.i64 m.c.3), C.tr false (T.int IntKind.i64 m.c.4),
      C.tr false (T.int IntKind.i64 m.c.5), C.tr false (T.int IntKind.i64 m.c.6), C.tr false (eL 11 Rm.cs m.2),
      C.tr false (eL 1 rowI m.3)]),
  (0, true, [C.tr false (T.int IntKind.i64 r.h.1), C.tr false (T.int IntKind.i64 r.h.2)])] fun (r1 : Int) =>
    bif decide (r1 < 0) then
     some ([(false, [.tr true (T.int IntKind.i64 (-1))]), (false, [.tr true (T.int IntKind.i64 2)])], [(false, []), (false, [])])
    else
    gd (decide (0 ≤ r1) && (r1.toNat.blt m.2.length && true)) <|
    gd (T.isI IntKind.i64 (atL Rm.cs m.2 r1.toNat 5)) <|
    bif (atL Rm.cs m.2 r1.toNat 5).toI != r.2 then
     some ([(false, [.tr true (T.int IntKind.i64 (-1))]), (false, [.tr true (T.int IntKind.i64 2)])], [(false, []), (false, [])])
    else
    gd (decide (0 ≤ r1) && (r1.toNat.blt m.2.length && true)) <|
    gd ((atL Rm.cs m.2 r1.toNat 9).isArr && (atL Rm.cs m.2 r1.toNat 9).wd.beq 1) <|
    bif decide ((↑(atL Rm.cs m.2 r1.toNat 9).ln : Int) ≤ r.3) then
     some ([(false, [.tr true (T.int IntKind.i64 (-1))]), (false, [.tr true (T.int IntKind.i64 2)])], [(false, []), (false, [])])
    else
    some ([(false, [.tr true (T.int IntKind.i64 r1)]), (false, [.tr true (T.int IntKind.i64 0)])], [(false, []), (false, [])])
   else
   some ([(false, [.tr true (T.int IntKind.i64 (-1))]), (false, [.tr true (T.int IntKind.i64 1)])], [(false, []), (false, [])])
  else
  some ([(false, [.tr true (T.int IntKind.i64 (-1))]), (false, [.tr true (T.int IntKind.i64 1)])], [(false, []), (false, [])])
 else
 some ([(false, [.tr true (T.int IntKind.i64 (-1))]), (false, [.tr true (T.int IntKind.i64 1)])], [(false, []), (false, [])])) := by kernel_rfl
def ok_sThg (x : Ml × Rf) : Prop := x.1.rooms.length ≤ LM
def ea_sThg (x : Ml × Rf) : List Arg := [aR x.1.cs, aR x.2.cs]
def f_sThg (x : Ml × Rf) : Int × Int := thg x.1 x.2
noncomputable def e_sThg : Ent := ent [] ok_sThg ea_sThg (fun (x : Int × Int) => ([oT (.int .i64 x.1), oT (.int .i64 x.2)], [nul, nul])) f_sThg
theorem ea_sThg_inj (x y : Ml × Rf) (h : ea_sThg x = ea_sThg y) : x = y := by
  obtain ⟨m1, r1⟩ := x
  obtain ⟨m2, r2⟩ := y
  simp only [ea_sThg, List.cons.injEq, and_true, true_and] at h
  obtain ⟨e0, e1⟩ := h
  obtain rfl := Ml.cs_ext (aR_inj e0)
  obtain rfl := Rf.cs_ext (aR_inj e1)
  rfl
theorem dm_sThg {m : Ml} {r : Rf} (h : ok_sThg (m, r)) : dom ok_sThg ea_sThg [(0, true, [C.tr false (T.int IntKind.i64 m.c.chunks), C.tr false (T.int IntKind.i64 m.c.size), C.tr false (T.int IntKind.i64 m.c.slots), C.tr false (T.int IntKind.i64 m.c.tax), C.tr false (T.int IntKind.i64 m.c.slice), C.tr false (T.int IntKind.i64 m.c.gens), C.tr false (T.arr 11 m.rooms.length (atL Rm.cs m.rooms)), C.tr false (T.arr 1 m.log.length (atL rowI m.log))]), (0, true, [C.tr false (T.int IntKind.i64 r.h.slot), C.tr false (T.int IntKind.i64 r.h.gen), C.tr false (T.int IntKind.i64 r.ep), C.tr false (T.int IntKind.i64 r.no)])] = true := dom_ea (ea := ea_sThg) (x := (m, r)) h
theorem iv_sThg {m : Ml} {r : Rf} (h : ok_sThg (m, r)) : inv ok_sThg ea_sThg [(0, true, [C.tr false (T.int IntKind.i64 m.c.chunks), C.tr false (T.int IntKind.i64 m.c.size), C.tr false (T.int IntKind.i64 m.c.slots), C.tr false (T.int IntKind.i64 m.c.tax), C.tr false (T.int IntKind.i64 m.c.slice), C.tr false (T.int IntKind.i64 m.c.gens), C.tr false (T.arr 11 m.rooms.length (atL Rm.cs m.rooms)), C.tr false (T.arr 1 m.log.length (atL rowI m.log))]), (0, true, [C.tr false (T.int IntKind.i64 r.h.slot), C.tr false (T.int IntKind.i64 r.h.gen), C.tr false (T.int IntKind.i64 r.ep), C.tr false (T.int IntKind.i64 r.no)])] = (m, r) := inv_ea ea_sThg_inj (x := (m, r)) h
theorem d_sThg (m : Ml) (r : Rf) : f_sThg (m, r) = thg m r := rfl
def i_sThg : Nat := 74
noncomputable abbrev F_sThg : Func := f74
def kp_sThg : List (Nat × List Nat) := [(0, [8, 9, 12, 13, 68, 72, 76, 80, 84, 88, 92, 96, 100, 112, 116, 120, 124, 128, 132, 136, 140, 144, 148]), (1, [8, 9, 12, 13, 36, 68, 72, 76, 80, 84, 88, 92, 96, 100, 112, 116, 120, 124, 128, 132, 136, 140, 144, 148]), (2, [16, 20]), (3, [8, 9, 12, 13, 24, 68, 72, 76, 80, 84, 88, 92, 96, 100, 112, 116, 120, 124, 128, 132, 136, 140, 144, 148]), (4, [24, 152]), (5, [16, 20]), (6, [16, 20])]
def ts_sThg : List Nat := [0, 0]
theorem pre_sThg (m : Ml) (r : Rf) (n : Nat) : body prog (tabS [(i_sROk, e_sROk), (i_sRoomOf, e_sRoomOf)]) kp_sThg n F_sThg [aR m.cs, aR r.cs] = (
 bif decide (0 ≤ r.h.1) then
  bif decide (1 ≤ r.h.2) then
   bif decide (0 ≤ r.2) then
    bif !decide (0 ≤ r.3) then
     some ([(false, [.tr true (T.int IntKind.i64 (-1))]), (false, [.tr true (T.int IntKind.i64 1)])], [(false, []), (false, [])])
    else
    entK ok_sRoomOf ea_sRoomOf (f_sRoomOf) [(0, true,
    [C.tr false (T.int IntKind.i64 m.c.1), C.tr false (T.int IntKind.i64 m.c.2),
      C.tr false (T.int IntKind.i64 m.c.3), C.tr false (T.int IntKind.i64 m.c.4),
      C.tr false (T.int IntKind.i64 m.c.5), C.tr false (T.int IntKind.i64 m.c.6), C.tr false (eL 11 Rm.cs m.2),
      C.tr false (eL 1 rowI m.3)]),
  (0, true, [C.tr false (T.int IntKind.i64 r.h.1), C.tr false (T.int IntKind.i64 r.h.2)])] fun (r1 : Int) =>
    bif decide (r1 < 0) then
     some ([(false, [.tr true (T.int IntKind.i64 (-1))]), (false, [.tr true (T.int IntKind.i64 2)])], [(false, []), (false, [])])
    else
    gd (decide (0 ≤ r1) && (r1.toNat.blt m.2.length && true)) <|
    gd (T.isI IntKind.i64 (atL Rm.cs m.2 r1.toNat 5)) <|
    bif (atL Rm.cs m.2 r1.toNat 5).toI != r.2 then
     some ([(false, [.tr true (T.int IntKind.i64 (-1))]), (false, [.tr true (T.int IntKind.i64 2)])], [(false, []), (false, [])])
    else
    gd (decide (0 ≤ r1) && (r1.toNat.blt m.2.length && true)) <|
    gd ((atL Rm.cs m.2 r1.toNat 9).isArr && (atL Rm.cs m.2 r1.toNat 9).wd.beq 1) <|
    bif decide ((↑(atL Rm.cs m.2 r1.toNat 9).ln : Int) ≤ r.3) then
     some ([(false, [.tr true (T.int IntKind.i64 (-1))]), (false, [.tr true (T.int IntKind.i64 2)])], [(false, []), (false, [])])
    else
    some ([(false, [.tr true (T.int IntKind.i64 r1)]), (false, [.tr true (T.int IntKind.i64 0)])], [(false, []), (false, [])])
   else
   some ([(false, [.tr true (T.int IntKind.i64 (-1))]), (false, [.tr true (T.int IntKind.i64 1)])], [(false, []), (false, [])])
  else
  some ([(false, [.tr true (T.int IntKind.i64 (-1))]), (false, [.tr true (T.int IntKind.i64 1)])], [(false, []), (false, [])])
 else
 some ([(false, [.tr true (T.int IntKind.i64 (-1))]), (false, [.tr true (T.int IntKind.i64 1)])], [(false, []), (false, [])])) := by kernel_rfl
end Go.Mach.F