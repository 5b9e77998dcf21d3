/- EagerRead: equations. Conditions: none. -/
import Derived.Test.YtkbhcdenfigpoaaUb
set_option linter.all false
namespace Go.Mach.F
open Go Go.Mach Go.Proofs.Try
--=set_option maxRecDepth 100000
def thB (m : Ml) (r : Rf) : List UInt8 := ((m.rooms.getD (thg m r).1.toNat zRm).things.getD r.no.toNat ⟨[]⟩).b
def erd (m : Ml) (r : Rf) (k c : Int) : List UInt8 × Int := bif decide ((thg m r).2 = 0) then (bif (gat (thB m r) k c).2 then ((gat (thB m r) k c).1, 0) else ([], 7)) else ([], (thg m r).2)
def ok_iEagerRead (x : Ml × Rf × Int × Int) : Prop := (x.1.rooms.length ≤ LM ∧ ∀ y ∈ x.1.rooms, ok_HdS y.kids ∧ ok_SfS y.things ∧ ok_LI y.tags)
def ea_iEagerRead (x : Ml × Rf × Int × Int) : List Arg := [aR x.1.cs, aR x.2.1.cs, aI x.2.2.1, aI x.2.2.2]
def f_iEagerRead (x : Ml × Rf × Int × Int) : List UInt8 × Int := erd x.1 x.2.1 x.2.2.1 x.2.2.2
noncomputable def e_iEagerRead : Ent := ent [] ok_iEagerRead ea_iEagerRead (fun (x : List UInt8 × Int) => ([oT (eB x.1), oT (.int .i64 x.2)], [nul, nul, nul, nul])) f_iEagerRead
theorem ea_iEagerRead_inj (x y : Ml × Rf × Int × Int) (h : ea_iEagerRead x = ea_iEagerRead y) : x = y := by
  obtain ⟨m1, r1, k1, c1⟩ := x
  obtain ⟨m2, r2, k2, c2⟩ := y
  simp only [ea_iEagerRead, List.cons.injEq, and_true, true_and] at h
  obtain ⟨e0, e1, e2, e3⟩ := h
  obtain rfl := Ml.cs_ext (aR_inj e0)
  obtain rfl := Rf.cs_ext (aR_inj e1)
  obtain rfl := aI_inj e2
  obtain rfl := aI_inj e3
  rfl
theorem dm_iEagerRead {m : Ml} {r : Rf} {k : Int} {c : Int} (h : ok_iEagerRead (m, r, k, c)) : dom ok_iEagerRead ea_iEagerRead [(0, true, [C.tr false (T.int IntKind.i64 m.c.chunks), C.tr false (T.int IntKind.i64 m.c.size), C.tr false (T.int IntKind.i64 m.c.slots), C.tr false (T.int IntKind.i64 m.c.tax), C.tr false (T.int IntKind.i64 m.c.slice), C.tr false (T.int IntKind.i64 m.c.gens), C.tr false (T.arr 11 m.rooms.length (atL Rm.cs m.rooms)), C.tr false (T.arr 1 m.log.length (atL rowI m.log))]), (0, true, [C.tr false (T.int IntKind.i64 r.h.slot), C.tr false (T.int IntKind.i64 r.h.gen), C.tr false (T.int IntKind.i64 r.ep), C.tr false (T.int IntKind.i64 r.no)]), (0, false, [C.tr false (T.int IntKind.i64 k)]), (0, false, [C.tr false (T.int IntKind.i64 c)])] = true := dom_ea (ea := ea_iEagerRead) (x := (m, r, k, c)) h
theorem iv_iEagerRead {m : Ml} {r : Rf} {k : Int} {c : Int} (h : ok_iEagerRead (m, r, k, c)) : inv ok_iEagerRead ea_iEagerRead [(0, true, [C.tr false (T.int IntKind.i64 m.c.chunks), C.tr false (T.int IntKind.i64 m.c.size), C.tr false (T.int IntKind.i64 m.c.slots), C.tr false (T.int IntKind.i64 m.c.tax), C.tr false (T.int IntKind.i64 m.c.slice), C.tr false (T.int IntKind.i64 m.c.gens), C.tr false (T.arr 11 m.rooms.length (atL Rm.cs m.rooms)), C.tr false (T.arr 1 m.log.length (atL rowI m.log))]), (0, true, [C.tr false (T.int IntKind.i64 r.h.slot), C.tr false (T.int IntKind.i64 r.h.gen), C.tr false (T.int IntKind.i64 r.ep), C.tr false (T.int IntKind.i64 r.no)]), (0, false, [C.tr false (T.int IntKind.i64 k)]), (0, false, [C.tr false (T.int IntKind.i64 c)])] = (m, r, k, c) := inv_ea ea_iEagerRead_inj (x := (m, r, k, c)) h
theorem d_iEagerRead (m : Ml) (r : Rf) (k : Int) (c : Int) : f_iEagerRead (m, r, k, c) = erd m r k c := rfl
def i_iEagerRead : Nat := 24
noncomputable abbrev F_iEagerRead : Func := f24
def kp_iEagerRead : List (Nat × List Nat) := [(0, [8, 12, 16, 17, 20, 21]), (1, [8, 12, 16, 17, 20, 21, 40, 44]), (2, [8, 12, 16, 17, 20, 21, 40, 44, 84]), (3, [32, 36]), (4, [48, 52]), (5, [48, 164]), (6, [32, 36]), (7, [32, 36])]
def ts_iEagerRead : List Nat := [0, 0, 0, 0]
theorem pre_iEagerRead (m : Ml) (r : Rf) (k : Int) (c : Int) (n : Nat) : body prog (tabS [(i_iThg, e_iThg), (i_iGetAt, e_iGetAt)]) kp_iEagerRead n F_iEagerRead [aR m.cs, aR r.cs, aI k, aI c] = (
 entK ok_iThg ea_iThg (f_iThg) [(0, true,
    [C.tr false (T.int IntKind.i64 m.c.1), C.tr false (T.int IntKind.i64 m.c.2),
      C.tr false (T.int IntKind.i64 m.c.3), C.tr false (T.int IntKind.i64 m.c.4),
      C.tr false (T.int IntKind.i64 m.c.5), C.tr false (T.int IntKind.i64 m.c.6), C.tr false (eL 11 Rm.cs m.2),
      C.tr false (eL 1 rowI m.3)]),
  (0, true,
    [C.tr false (T.int IntKind.i64 r.h.1), C.tr false (T.int IntKind.i64 r.h.2), C.tr false (T.int IntKind.i64 r.2),
      C.tr false (T.int IntKind.i64 r.3)])] fun (r1 : Int × Int) =>
 bif r1.2 != 0 then
  some ([(false, [.tr true (.arr (1) (0) (fun x x_1 => T.hole))]), (false, [.tr true (T.int IntKind.i64 r1.2)])], [(false, []), (false, []), (false, []), (false, [])])
 else
 gd (decide (0 ≤ r1.1) && (r1.1.toNat.blt m.2.length && true)) <|
 gd ((atL Rm.cs m.2 r1.1.toNat 9).isArr && (atL Rm.cs m.2 r1.1.toNat 9).wd.beq 1) <|
 gd (decide (0 ≤ r.3) && (r.3.toNat.blt (atL Rm.cs m.2 r1.1.toNat 9).ln && true)) <|
 gd (((atL Rm.cs m.2 r1.1.toNat 9).fn r.3.toNat 0).isArr &&
  ((atL Rm.cs m.2 r1.1.toNat 9).fn r.3.toNat 0).wd.beq 1) <|
 entK ok_iGetAt ea_iGetAt (f_iGetAt) [(0, false,
    [C.tr false
        (T.arr 1 ((atL Rm.cs m.2 r1.1.toNat 9).fn r.3.toNat 0).ln
          ((atL Rm.cs m.2 r1.1.toNat 9).fn r.3.toNat 0).fn)]),
  (0, false, [C.tr false (T.int IntKind.i64 k)]), (0, false, [C.tr false (T.int IntKind.i64 c)])] fun (r2 : List UInt8 × Bool) =>
 gd (r2.1.length.ble r2.1.length && true) <|
 bif !r2.2 then
  some ([(false, [.tr true (.arr (1) (0) (fun x x_1 => T.hole))]), (false, [.tr true (T.int IntKind.i64 7)])], [(false, []), (false, []), (false, []), (false, [])])
 else
 gd (r2.1.length.ble r2.1.length && true) <|
 gd (r2.1.length.ble r2.1.length && true) <|
 some ([(false, [.tr true (.arr (1) (r2.1.length) (atL rowB r2.1))]), (false, [.tr true (T.int IntKind.i64 0)])], [(false, []), (false, []), (false, []), (false, [])])) := by kernel_rfl
def ok_sEagerRead (x : Ml × Rf × Int × Int) : Prop := (x.1.rooms.length ≤ LM ∧ ∀ y ∈ x.1.rooms, ok_HdS y.kids ∧ ok_SfS y.things ∧ ok_LI y.tags)
def ea_sEagerRead (x : Ml × Rf × Int × Int) : List Arg := [aR x.1.cs, aR x.2.1.cs, aI x.2.2.1, aI x.2.2.2]
def f_sEagerRead (x : Ml × Rf × Int × Int) : List UInt8 × Int := erd x.1 x.2.1 x.2.2.1 x.2.2.2
noncomputable def e_sEagerRead : Ent := ent [] ok_sEagerRead ea_sEagerRead (fun (x : List UInt8 × Int) => ([oT (eB x.1), oT (.int .i64 x.2)], [nul, nul, nul, nul])) f_sEagerRead
theorem ea_sEagerRead_inj (x y : Ml × Rf × Int × Int) (h : ea_sEagerRead x = ea_sEagerRead y) : x = y := by
  obtain ⟨m1, r1, k1, c1⟩ := x
  obtain ⟨m2, r2, k2, c2⟩ := y
  simp only [ea_sEagerRead, List.cons.injEq, and_true, true_and] at h
  obtain ⟨e0, e1, e2, e3⟩ := h
  obtain rfl := Ml.cs_ext (aR_inj e0)
  obtain rfl := Rf.cs_ext (aR_inj e1)
  obtain rfl := aI_inj e2
  obtain rfl := aI_inj e3
  rfl
theorem dm_sEagerRead {m : Ml} {r : Rf} {k : Int} {c : Int} (h : ok_sEagerRead (m, r, k, c)) : dom ok_sEagerRead ea_sEagerRead [(0, true, [C.tr false (T.int IntKind.i64 m.c.chunks), C.tr false (T.int IntKind.i64 m.c.size), C.tr false (T.int IntKind.i64 m.c.slots), C.tr false (T.int IntKind.i64 m.c.tax), C.tr false (T.int IntKind.i64 m.c.slice), C.tr false (T.int IntKind.i64 m.c.gens), C.tr false (T.arr 11 m.rooms.length (atL Rm.cs m.rooms)), C.tr false (T.arr 1 m.log.length (atL rowI m.log))]), (0, true, [C.tr false (T.int IntKind.i64 r.h.slot), C.tr false (T.int IntKind.i64 r.h.gen), C.tr false (T.int IntKind.i64 r.ep), C.tr false (T.int IntKind.i64 r.no)]), (0, false, [C.tr false (T.int IntKind.i64 k)]), (0, false, [C.tr false (T.int IntKind.i64 c)])] = true := dom_ea (ea := ea_sEagerRead) (x := (m, r, k, c)) h
theorem iv_sEagerRead {m : Ml} {r : Rf} {k : Int} {c : Int} (h : ok_sEagerRead (m, r, k, c)) : inv ok_sEagerRead ea_sEagerRead [(0, true, [C.tr false (T.int IntKind.i64 m.c.chunks), C.tr false (T.int IntKind.i64 m.c.size), C.tr false (T.int IntKind.i64 m.c.slots), C.tr false (T.int IntKind.i64 m.c.tax), C.tr false (T.int IntKind.i64 m.c.slice), C.tr false (T.int IntKind.i64 m.c.gens), C.tr false (T.arr 11 m.rooms.length (atL Rm.cs m.rooms)), C.tr false (T.arr 1 m.log.length (atL rowI m.log))]), (0, true, [C.tr false (T.int IntKind.i64 r.h.slot), C.tr false (T.int IntKind.i64 r.h.gen), C.tr false (T.int IntKind.i64 r.ep), C.tr false (T.int IntKind.i64 r.no)]), (0, false, [C.tr false (T.int IntKind.i64 k)]), (0, false, [C.tr false (T.int IntKind.i64 c)])] = (m, r, k, c) := inv_ea ea_sEagerRead_inj (x := (m, r, k, c)) h
theorem d_sEagerRead (m : Ml) (r : Rf) (k : Int) (c : Int) : f_sEagerRead (m, r, k, c) = erd m r k c := rfl
def i_sEagerRead : Nat := 21
noncomputable abbrev F_sEagerRead : Func := f21
def kp_sEagerRead : List (Nat × List Nat) := [(0, [8, 12, 16, 17, 20, 21]), (1, [8, 12, 16, 17, 20, 21, 40, 44]), (2, [8, 12, 16, 17, 20, 21, 40, 44, 84]), (3, [32, 36]), (4, [48, 52]), (5, [48, 168]), (6, [32, 36]), (7, [32, 36])]
def ts_sEagerRead : List Nat := [0, 0, 0, 0]
theorem pre_sEagerRead (m : Ml) (r : Rf) (k : Int) (c : Int) (n : Nat) : body prog (tabS [(i_sThg, e_sThg), (i_sGetAt, e_sGetAt)]) kp_sEagerRead n F_sEagerRead [aR m.cs, aR r.cs, aI k, aI c] = (
 entK ok_sThg ea_sThg (f_sThg) [(0, true,
    [C.tr false (T.int IntKind.i64 m.c.1), C.tr false (T.int IntKind.i64 m.c.2),
      C.tr false (T.int IntKind.i64 m.c.3), C.tr false (T.int IntKind.i64 m.c.4),
      C.tr false (T.int IntKind.i64 m.c.5), C.tr false (T.int IntKind.i64 m.c.6), C.tr false (eL 11 Rm.cs m.2),
      C.tr false (eL 1 rowI m.3)]),
  (0, true,
    [C.tr false (T.int IntKind.i64 r.h.1), C.tr false (T.int IntKind.i64 r.h.2), C.tr false (T.int IntKind.i64 r.2),
      C.tr false (T.int IntKind.i64 r.3)])] fun (r1 : Int × Int) =>
 bif r1.2 != 0 then
  some ([(false, [.tr true (.arr (1) (0) (rowsT []))]), (false, [.tr true (T.int IntKind.i64 r1.2)])], [(false, []), (false, []), (false, []), (false, [])])
 else
 gd (decide (0 ≤ r1.1) && (r1.1.toNat.blt m.2.length && true)) <|
 gd ((atL Rm.cs m.2 r1.1.toNat 9).isArr && (atL Rm.cs m.2 r1.1.toNat 9).wd.beq 1) <|
 gd (decide (0 ≤ r.3) && (r.3.toNat.blt (atL Rm.cs m.2 r1.1.toNat 9).ln && true)) <|
 gd (((atL Rm.cs m.2 r1.1.toNat 9).fn r.3.toNat 0).isArr &&
  ((atL Rm.cs m.2 r1.1.toNat 9).fn r.3.toNat 0).wd.beq 1) <|
 entK ok_sGetAt ea_sGetAt (f_sGetAt) [(0, false,
    [C.tr false
        (T.arr 1 ((atL Rm.cs m.2 r1.1.toNat 9).fn r.3.toNat 0).ln
          ((atL Rm.cs m.2 r1.1.toNat 9).fn r.3.toNat 0).fn)]),
  (0, false, [C.tr false (T.int IntKind.i64 k)]), (0, false, [C.tr false (T.int IntKind.i64 c)])] fun (r2 : List UInt8 × Bool) =>
 gd (r2.1.length.ble r2.1.length && true) <|
 bif !r2.2 then
  some ([(false, [.tr true (.arr (1) (0) (rowsT []))]), (false, [.tr true (T.int IntKind.i64 7)])], [(false, []), (false, []), (false, []), (false, [])])
 else
 gd (r2.1.length.ble r2.1.length && true) <|
 gd (r2.1.length.ble r2.1.length && true) <|
 some ([(false, [.tr true (.arr (1) (r2.1.length) (atL rowB r2.1))]), (false, [.tr true (T.int IntKind.i64 0)])], [(false, []), (false, []), (false, []), (false, [])])) := by kernel_rfl
end Go.Mach.F