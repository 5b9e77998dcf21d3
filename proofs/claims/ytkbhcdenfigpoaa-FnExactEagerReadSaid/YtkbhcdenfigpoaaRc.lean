/- RoomAt: equations. Conditions: none. -/
import Derived.Test.YtkbhcdenfigpoaaRb
set_option linter.all false
namespace Go.Mach.F
open Go Go.Mach Go.Proofs.Try
--=set_option maxRecDepth 100000
def zRm : Rm := ⟨⟨0, 0⟩, ⟨0, 0⟩, [], 0, 0, false, 0, [], []⟩
def roomAt (l : List Rm) (h : Hd) : Rm := bif decide (rof l h < 0) then zRm else l.getD (rof l h).toNat zRm
def ok_iRoomAt (x : Ml × Hd) : Prop := (x.1.rooms.length ≤ LM ∧ ∀ r ∈ x.1.rooms, ok_HdS r.kids ∧ ok_SfS r.things ∧ ok_LI r.tags)
def ea_iRoomAt (x : Ml × Hd) : List Arg := [aR x.1.cs, aR x.2.cs]
def f_iRoomAt (x : Ml × Hd) : Rm := roomAt x.1.rooms x.2
noncomputable def e_iRoomAt : Ent := ent [] ok_iRoomAt ea_iRoomAt (fun r => erR 2 r.cs) f_iRoomAt
theorem ea_iRoomAt_inj (x y : Ml × Hd) (h : ea_iRoomAt x = ea_iRoomAt y) : x = y := by
  obtain ⟨m1, h1⟩ := x
  obtain ⟨m2, h2⟩ := y
  simp only [ea_iRoomAt, List.cons.injEq, and_true, true_and] at h
  obtain ⟨e0, e1⟩ := h
  obtain rfl := Ml.cs_ext (aR_inj e0)
  obtain rfl := Hd.cs_ext (aR_inj e1)
  rfl
theorem dm_iRoomAt {m : Ml} {h : Hd} (h0 : ok_iRoomAt (m, h)) : dom ok_iRoomAt ea_iRoomAt [(0, true, [C.tr false (T.int IntKind.i64 m.c.chunks), C.tr false (T.int IntKind.i64 m.c.size), C.tr false (T.int IntKind.i64 m.c.slots), C.tr false (T.int IntKind.i64 m.c.tax), C.tr false (T.int IntKind.i64 m.c.slice), C.tr false (T.int IntKind.i64 m.c.gens), C.tr false (T.arr 11 m.rooms.length (atL Rm.cs m.rooms)), C.tr false (T.arr 1 m.log.length (atL rowI m.log))]), (0, true, [C.tr false (T.int IntKind.i64 h.slot), C.tr false (T.int IntKind.i64 h.gen)])] = true := dom_ea (ea := ea_iRoomAt) (x := (m, h)) h0
theorem iv_iRoomAt {m : Ml} {h : Hd} (h0 : ok_iRoomAt (m, h)) : inv ok_iRoomAt ea_iRoomAt [(0, true, [C.tr false (T.int IntKind.i64 m.c.chunks), C.tr false (T.int IntKind.i64 m.c.size), C.tr false (T.int IntKind.i64 m.c.slots), C.tr false (T.int IntKind.i64 m.c.tax), C.tr false (T.int IntKind.i64 m.c.slice), C.tr false (T.int IntKind.i64 m.c.gens), C.tr false (T.arr 11 m.rooms.length (atL Rm.cs m.rooms)), C.tr false (T.arr 1 m.log.length (atL rowI m.log))]), (0, true, [C.tr false (T.int IntKind.i64 h.slot), C.tr false (T.int IntKind.i64 h.gen)])] = (m, h) := inv_ea ea_iRoomAt_inj (x := (m, h)) h0
theorem d_iRoomAt (m : Ml) (h : Hd) : f_iRoomAt (m, h) = roomAt m.rooms h := rfl
def i_iRoomAt : Nat := 34
noncomputable abbrev F_iRoomAt : Func := f34
def kp_iRoomAt : List (Nat × List Nat) := [(0, [8, 9, 12, 13, 16, 17, 44, 68]), (1, [8, 9, 16, 17, 20, 44, 68]), (2, [8, 9, 16, 17, 20, 40, 44, 68]), (3, [16, 17, 44, 68]), (4, [16, 17, 44, 68])]
def ts_iRoomAt : List Nat := [0, 0]
theorem pre_iRoomAt (m : Ml) (h : Hd) (n : Nat) : body prog (tabS [(i_iRoomOf, e_iRoomOf), (i_iRoom, e_iRoom)]) kp_iRoomAt n F_iRoomAt [aR m.cs, aR h.cs] = (
 entK ok_iRoomOf ea_iRoomOf (f_iRoomOf) [(0, true,
    [C.tr false (T.int IntKind.i64 m.c.1), C.tr false (T.int IntKind.i64 m.c.2),
      C.tr false (T.int IntKind.i64 m.c.3), C.tr false (T.int IntKind.i64 m.c.4),
      C.tr false (T.int IntKind.i64 m.c.5), C.tr false (T.int IntKind.i64 m.c.6), C.tr false (eL 11 Rm.cs m.2),
      C.tr false (eL 1 rowI m.3)]),
  (0, true, [C.tr false (T.int IntKind.i64 h.1), C.tr false (T.int IntKind.i64 h.2)])] fun (r1 : Int) =>
 bif decide (r1 < 0) then
  some ([(true, [.tr true (T.int IntKind.i64 0), .tr true (T.int IntKind.i64 0), .tr true (T.int IntKind.i64 0), .tr true (T.int IntKind.i64 0), .tr true (.arr (2) (0) (fun x x_1 => T.hole)), .tr true (T.int IntKind.i64 0), .tr true (T.int IntKind.i64 0), .tr true (T.bool false), .tr true (T.int IntKind.i64 0), .tr true (.arr (1) (0) (fun x x_1 => T.hole)), .tr true (.arr (1) (0) (fun x x_1 => T.hole))])], [(false, []), (false, [])])
 else
 gd (decide (0 ≤ r1) && (r1.toNat.blt m.2.length && true)) <|
 gd (T.isI IntKind.i64 (atL Rm.cs m.2 r1.toNat 0) && T.isI IntKind.i64 (atL Rm.cs m.2 r1.toNat 1) &&
                  T.isI IntKind.i64 (atL Rm.cs m.2 r1.toNat 2) &&
                T.isI IntKind.i64 (atL Rm.cs m.2 r1.toNat 3) &&
              ((atL Rm.cs m.2 r1.toNat 4).isArr && (atL Rm.cs m.2 r1.toNat 4).wd.beq 2) &&
            T.isI IntKind.i64 (atL Rm.cs m.2 r1.toNat 5) &&
          T.isI IntKind.i64 (atL Rm.cs m.2 r1.toNat 6) &&
        (atL Rm.cs m.2 r1.toNat 7).isB &&
      T.isI IntKind.i64 (atL Rm.cs m.2 r1.toNat 8) &&
    ((atL Rm.cs m.2 r1.toNat 9).isArr && (atL Rm.cs m.2 r1.toNat 9).wd.beq 1) &&
  ((atL Rm.cs m.2 r1.toNat 10).isArr && (atL Rm.cs m.2 r1.toNat 10).wd.beq 1)) <|
 entK ok_iRoom ea_iRoom (f_iRoom) [(0, true,
    [C.tr false (T.int IntKind.i64 (atL Rm.cs m.2 r1.toNat 0).toI),
      C.tr false (T.int IntKind.i64 (atL Rm.cs m.2 r1.toNat 1).toI),
      C.tr false (T.int IntKind.i64 (atL Rm.cs m.2 r1.toNat 2).toI),
      C.tr false (T.int IntKind.i64 (atL Rm.cs m.2 r1.toNat 3).toI),
      C.tr false (T.arr 2 (atL Rm.cs m.2 r1.toNat 4).ln (atL Rm.cs m.2 r1.toNat 4).fn),
      C.tr false (T.int IntKind.i64 (atL Rm.cs m.2 r1.toNat 5).toI),
      C.tr false (T.int IntKind.i64 (atL Rm.cs m.2 r1.toNat 6).toI),
      C.tr false (T.bool (atL Rm.cs m.2 r1.toNat 7).toB),
      C.tr false (T.int IntKind.i64 (atL Rm.cs m.2 r1.toNat 8).toI),
      C.tr false (T.arr 1 (atL Rm.cs m.2 r1.toNat 9).ln (atL Rm.cs m.2 r1.toNat 9).fn),
      C.tr false (T.arr 1 (atL Rm.cs m.2 r1.toNat 10).ln (atL Rm.cs m.2 r1.toNat 10).fn)])] fun (r2 : Rm) =>
 gd (r2.3.length.ble r2.3.length && true) <|
 gd (r2.8.length.ble r2.8.length && true) <|
 gd (r2.9.length.ble r2.9.length && true) <|
 gd (r2.3.length.ble r2.3.length && true) <|
 gd (r2.8.length.ble r2.8.length && true) <|
 gd (r2.9.length.ble r2.9.length && true) <|
 some ([(true, [.tr true (T.int IntKind.i64 r2.h.1), .tr true (T.int IntKind.i64 r2.h.2), .tr true (T.int IntKind.i64 r2.up.1), .tr true (T.int IntKind.i64 r2.up.2), .tr true (.arr (2) (r2.3.length) ((eL 2 Hd.cs r2.3).fn)), .tr true (T.int IntKind.i64 r2.4), .tr true (T.int IntKind.i64 r2.5), .tr true (T.bool r2.6), .tr true (T.int IntKind.i64 r2.7), .tr true (.arr (1) (r2.8.length) ((eL 1 Sf.cs r2.8).fn)), .tr true (.arr (1) (r2.9.length) ((eL 1 rowI r2.9).fn))])], [(false, []), (false, [])])) := by kernel_rfl
def ok_sRoomAt (x : Ml × Hd) : Prop := (x.1.rooms.length ≤ LM ∧ ∀ r ∈ x.1.rooms, ok_HdS r.kids ∧ ok_SfS r.things ∧ ok_LI r.tags)
def ea_sRoomAt (x : Ml × Hd) : List Arg := [aR x.1.cs, aR x.2.cs]
def f_sRoomAt (x : Ml × Hd) : Rm := roomAt x.1.rooms x.2
noncomputable def e_sRoomAt : Ent := ent [] ok_sRoomAt ea_sRoomAt (fun r => erR 2 r.cs) f_sRoomAt
theorem ea_sRoomAt_inj (x y : Ml × Hd) (h : ea_sRoomAt x = ea_sRoomAt y) : x = y := by
  obtain ⟨m1, h1⟩ := x
  obtain ⟨m2, h2⟩ := y
  simp only [ea_sRoomAt, List.cons.injEq, and_true, true_and] at h
  obtain ⟨e0, e1⟩ := h
  obtain rfl := Ml.cs_ext (aR_inj e0)
  obtain rfl := Hd.cs_ext (aR_inj e1)
  rfl
theorem dm_sRoomAt {m : Ml} {h : Hd} (h0 : ok_sRoomAt (m, h)) : dom ok_sRoomAt ea_sRoomAt [(0, true, [C.tr false (T.int IntKind.i64 m.c.chunks), C.tr false (T.int IntKind.i64 m.c.size), C.tr false (T.int IntKind.i64 m.c.slots), C.tr false (T.int IntKind.i64 m.c.tax), C.tr false (T.int IntKind.i64 m.c.slice), C.tr false (T.int IntKind.i64 m.c.gens), C.tr false (T.arr 11 m.rooms.length (atL Rm.cs m.rooms)), C.tr false (T.arr 1 m.log.length (atL rowI m.log))]), (0, true, [C.tr false (T.int IntKind.i64 h.slot), C.tr false (T.int IntKind.i64 h.gen)])] = true := dom_ea (ea := ea_sRoomAt) (x := (m, h)) h0
theorem iv_sRoomAt {m : Ml} {h : Hd} (h0 : ok_sRoomAt (m, h)) : inv ok_sRoomAt ea_sRoomAt [(0, true, [C.tr false (T.int IntKind.i64 m.c.chunks), C.tr false (T.int IntKind.i64 m.c.size), C.tr false (T.int IntKind.i64 m.c.slots), C.tr false (T.int IntKind.i64 m.c.tax), C.tr false (T.int IntKind.i64 m.c.slice), C.tr false (T.int IntKind.i64 m.c.gens), C.tr false (T.arr 11 m.rooms.length (atL Rm.cs m.rooms)), C.tr false (T.arr 1 m.log.length (atL rowI m.log))]), (0, true, [C.tr false (T.int IntKind.i64 h.slot), C.tr false (T.int IntKind.i64 h.gen)])] = (m, h) := inv_ea ea_sRoomAt_inj (x := (m, h)) h0
theorem d_sRoomAt (m : Ml) (h : Hd) : f_sRoomAt (m, h) = roomAt m.rooms h := rfl
def i_sRoomAt : Nat := 32
noncomputable abbrev F_sRoomAt : Func := f32
def kp_sRoomAt : List (Nat × List Nat) := [(0, [8, 9, 12, 13, 16, 17, 44, 68]), (1, [8, 9, 16, 17, 20, 44, 68]), (2, [8, 9, 16, 17, 20, 40, 44, 68]), (3, [16, 17, 44, 68]), (4, [16, 17, 44, 68])]
def ts_sRoomAt : List Nat := [0, 0]
theorem pre_sRoomAt (m : Ml) (h : Hd) (n : Nat) : body prog (tabS [(i_sRoomOf, e_sRoomOf), (i_sRoom, e_sRoom)]) kp_sRoomAt n F_sRoomAt [aR m.cs, aR h.cs] = (
 entK ok_sRoomOf ea_sRoomOf (f_sRoomOf) [(0, true,
    [C.tr false (T.int IntKind.i64 m.c.1), C.tr false (T.int IntKind.i64 m.c.2),
      C.tr false (T.int IntKind.i64 m.c.3), C.tr false (T.int IntKind.i64 m.c.4),
      C.tr false (T.int IntKind.i64 m.c.5), C.tr false (T.int IntKind.i64 m.c.6), C.tr false (eL 11 Rm.cs m.2),
      C.tr false (eL 1 rowI m.3)]),
  (0, true, [C.tr false (T.int IntKind.i64 h.1), C.tr false (T.int IntKind.i64 h.2)])] fun (r1 : Int) =>
 bif decide (r1 < 0) then
  some ([(true, [.tr true (T.int IntKind.i64 0), .tr true (T.int IntKind.i64 0), .tr true (T.int IntKind.i64 0), .tr true (T.int IntKind.i64 0), .tr true (.arr (2) (0) (fun x x_1 => T.hole)), .tr true (T.int IntKind.i64 0), .tr true (T.int IntKind.i64 0), .tr true (T.bool false), .tr true (T.int IntKind.i64 0), .tr true (.arr (1) (0) (fun x x_1 => T.hole)), .tr true (.arr (1) (0) (fun x x_1 => T.hole))])], [(false, []), (false, [])])
 else
 gd (decide (0 ≤ r1) && (r1.toNat.blt m.2.length && true)) <|
 gd (T.isI IntKind.i64 (atL Rm.cs m.2 r1.toNat 0) && T.isI IntKind.i64 (atL Rm.cs m.2 r1.toNat 1) &&
                  T.isI IntKind.i64 (atL Rm.cs m.2 r1.toNat 2) &&
                T.isI IntKind.i64 (atL Rm.cs m.2 r1.toNat 3) &&
              ((atL Rm.cs m.2 r1.toNat 4).isArr && (atL Rm.cs m.2 r1.toNat 4).wd.beq 2) &&
            T.isI IntKind.i64 (atL Rm.cs m.2 r1.toNat 5) &&
          T.isI IntKind.i64 (atL Rm.cs m.2 r1.toNat 6) &&
        (atL Rm.cs m.2 r1.toNat 7).isB &&
      T.isI IntKind.i64 (atL Rm.cs m.2 r1.toNat 8) &&
    ((atL Rm.cs m.2 r1.toNat 9).isArr && (atL Rm.cs m.2 r1.toNat 9).wd.beq 1) &&
  ((atL Rm.cs m.2 r1.toNat 10).isArr && (atL Rm.cs m.2 r1.toNat 10).wd.beq 1)) <|
 entK ok_sRoom ea_sRoom (f_sRoom) [(0, true,
    [C.tr false (T.int IntKind.i64 (atL Rm.cs m.2 r1.toNat 0).toI),
      C.tr false (T.int IntKind.i64 (atL Rm.cs m.2 r1.toNat 1).toI),
      C.tr false (T.int IntKind.i64 (atL Rm.cs m.2 r1.toNat 2).toI),
      C.tr false (T.int IntKind.i64 (atL Rm.cs m.2 r1.toNat 3).toI),
      C.tr false (T.arr 2 (atL Rm.cs m.2 r1.toNat 4).ln (atL Rm.cs m.2 r1.toNat 4).fn),
      C.tr false (T.int IntKind.i64 (atL Rm.cs m.2 r1.toNat 5).toI),
      C.tr false (T.int IntKind.i64 (atL Rm.cs m.2 r1.toNat 6).toI),
      C.tr false (T.bool (atL Rm.cs m.2 r1.toNat 7).toB),
      C.tr false (T.int IntKind.i64 (atL Rm.cs m.2 r1.toNat 8).toI),
      C.tr false (T.arr 1 (atL Rm.cs m.2 r1.toNat 9).ln (atL Rm.cs m.2 r1.toNat 9).fn),
      C.tr false (T.arr 1 (atL Rm.cs m.2 r1.toNat 10).ln (atL Rm.cs m.2 r1.toNat 10).fn)])] fun (r2 : Rm) =>
 gd (r2.3.length.ble r2.3.length && true) <|
 gd (r2.8.length.ble r2.8.length && true) <|
 gd (r2.9.length.ble r2.9.length && true) <|
 gd (r2.3.length.ble r2.3.length && true) <|
 gd (r2.8.length.ble r2.8.length && true) <|
 gd (r2.9.length.ble r2.9.length && true) <|
 some ([(true, [.tr true (T.int IntKind.i64 r2.h.1), .tr true (T.int IntKind.i64 r2.h.2), .tr true (T.int IntKind.i64 r2.up.1), .tr true (T.int IntKind.i64 r2.up.2), .tr true (.arr (2) (r2.3.length) ((eL 2 Hd.cs r2.3).fn)), .tr true (T.int IntKind.i64 r2.4), .tr true (T.int IntKind.i64 r2.5), .tr true (T.bool r2.6), .tr true (T.int IntKind.i64 r2.7), .tr true (.arr (1) (r2.8.length) ((eL 1 Sf.cs r2.8).fn)), .tr true (.arr (1) (r2.9.length) ((eL 1 rowI r2.9).fn))])], [(false, []), (false, [])])) := by kernel_rfl
end Go.Mach.F