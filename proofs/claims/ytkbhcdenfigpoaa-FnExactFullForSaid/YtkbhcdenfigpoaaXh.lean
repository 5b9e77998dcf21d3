/- OneOf: equations. Conditions: none. -/
import Derived.Test.YtkbhcdenfigpoaaXg
set_option linter.all false
namespace Go.Mach.F
open Go Go.Mach Go.Proofs.Try
--=set_option maxRecDepth 100000
def i_Contains : Nat := 83
noncomputable abbrev F_Contains : Func := f83
def kp_Contains : List (Nat × List Nat) := [(0, [0, 4]), (1, [16])]
noncomputable def e_Contains : Ent := inl [] prog (tabS [(i_Index, e_Index)]) kp_Contains 0 F_Contains
theorem s_Contains : EntOk prog i_Contains e_Contains := inl_ok (tabS_cons s_Index tabS_nil) mixed (c := bodyOf F_Contains) func83 (by kernel_rfl) (name_ok (by kernel_rfl))
def ok_iOneOf (x : Wd × Int) : Prop := x.1.l.length ≤ LM ∧ upI x.1.l
def ea_iOneOf (x : Wd × Int) : List Arg := [aR x.1.cs, aI x.2]
def f_iOneOf (x : Wd × Int) : Bool := has (rms x.1.l) x.2
noncomputable def e_iOneOf : Ent := ent [] ok_iOneOf ea_iOneOf (erB 2) f_iOneOf
theorem ea_iOneOf_inj (x y : Wd × Int) (h : ea_iOneOf x = ea_iOneOf y) : x = y := by
  obtain ⟨w1, k1⟩ := x
  obtain ⟨w2, k2⟩ := y
  simp only [ea_iOneOf, List.cons.injEq, and_true, true_and] at h
  obtain ⟨e0, e1⟩ := h
  obtain rfl := Wd.cs_ext (aR_inj e0)
  obtain rfl := aI_inj e1
  rfl
theorem dm_iOneOf {w : Wd} {k : Int} (h : ok_iOneOf (w, k)) : dom ok_iOneOf ea_iOneOf [(0, true, [C.tr false (T.int IntKind.i64 w.c.chunks), C.tr false (T.int IntKind.i64 w.c.size), C.tr false (T.int IntKind.i64 w.c.slots), C.tr false (T.int IntKind.i64 w.c.tax), C.tr false (T.int IntKind.i64 w.c.slice), C.tr false (T.int IntKind.i64 w.c.gens), C.tr false (T.arr 1 w.p.mem.length (atL rowB w.p.mem)), C.tr false (T.arr 1 w.p.st.length (atL rowI w.p.st)), C.tr false (T.arr 1 w.p.own.length (atL rowI w.p.own)), C.tr false (T.arr 13 w.l.length (atL Nd.cs w.l)), C.tr false (T.arr 5 w.q.length (atL Ws.cs w.q)), C.tr false (T.arr 1 w.log.length (atL rowI w.log))]), (0, false, [C.tr false (T.int IntKind.i64 k)])] = true := dom_ea (ea := ea_iOneOf) (x := (w, k)) h
theorem iv_iOneOf {w : Wd} {k : Int} (h : ok_iOneOf (w, k)) : inv ok_iOneOf ea_iOneOf [(0, true, [C.tr false (T.int IntKind.i64 w.c.chunks), C.tr false (T.int IntKind.i64 w.c.size), C.tr false (T.int IntKind.i64 w.c.slots), C.tr false (T.int IntKind.i64 w.c.tax), C.tr false (T.int IntKind.i64 w.c.slice), C.tr false (T.int IntKind.i64 w.c.gens), C.tr false (T.arr 1 w.p.mem.length (atL rowB w.p.mem)), C.tr false (T.arr 1 w.p.st.length (atL rowI w.p.st)), C.tr false (T.arr 1 w.p.own.length (atL rowI w.p.own)), C.tr false (T.arr 13 w.l.length (atL Nd.cs w.l)), C.tr false (T.arr 5 w.q.length (atL Ws.cs w.q)), C.tr false (T.arr 1 w.log.length (atL rowI w.log))]), (0, false, [C.tr false (T.int IntKind.i64 k)])] = (w, k) := inv_ea ea_iOneOf_inj (x := (w, k)) h
theorem d_iOneOf (w : Wd) (k : Int) : f_iOneOf (w, k) = has (rms w.l) k := rfl
def i_iOneOf : Nat := 31
noncomputable abbrev F_iOneOf : Func := f31
def kp_iOneOf : List (Nat × List Nat) := [(0, [4, 8, 9]), (1, [16])]
def ts_iOneOf : List Nat := [0, 0]
theorem pre_iOneOf (w : Wd) (k : Int) (n : Nat) : body prog (tabS [(i_iRoomsIn, e_iRoomsIn), (i_Contains, e_Contains)]) kp_iOneOf n F_iOneOf [aR w.cs, aI k] = (
 entK ok_iRoomsIn ea_iRoomsIn (f_iRoomsIn) [(0, true,
    [C.tr false (T.int IntKind.i64 w.c.1), C.tr false (T.int IntKind.i64 w.c.2),
      C.tr false (T.int IntKind.i64 w.c.3), C.tr false (T.int IntKind.i64 w.c.4),
      C.tr false (T.int IntKind.i64 w.c.5), C.tr false (T.int IntKind.i64 w.c.6), C.tr false (eL 1 rowB w.p.1),
      C.tr false (eL 1 rowI w.p.2), C.tr false (eL 1 rowI w.p.3), C.tr false (eL 13 Nd.cs w.3),
      C.tr false (eL 5 Ws.cs w.4), C.tr false (eL 1 rowI w.5)])] fun (r1 : List Int) =>
 gd ((0 + r1.length).ble r1.length) <|
 entK ok_Index ea_Index (f_Index) [(0, false, [C.tr false (T.arr 1 r1.length (cutT 0 r1.length (atL rowI r1)))]),
  (0, false, [C.tr false (T.int IntKind.i64 k)])] fun (r2 : Int) =>
 some ([(false, [.tr true (T.bool (decide (0 ≤ r2)))])], [(false, []), (false, [])])) := by kernel_rfl
def ok_sOneOf (x : Wd × Int) : Prop := x.1.l.length ≤ LM ∧ upI x.1.l
def ea_sOneOf (x : Wd × Int) : List Arg := [aR x.1.cs, aI x.2]
def f_sOneOf (x : Wd × Int) : Bool := has (rms x.1.l) x.2
noncomputable def e_sOneOf : Ent := ent [] ok_sOneOf ea_sOneOf (erB 2) f_sOneOf
theorem ea_sOneOf_inj (x y : Wd × Int) (h : ea_sOneOf x = ea_sOneOf y) : x = y := by
  obtain ⟨w1, k1⟩ := x
  obtain ⟨w2, k2⟩ := y
  simp only [ea_sOneOf, List.cons.injEq, and_true, true_and] at h
  obtain ⟨e0, e1⟩ := h
  obtain rfl := Wd.cs_ext (aR_inj e0)
  obtain rfl := aI_inj e1
  rfl
theorem dm_sOneOf {w : Wd} {k : Int} (h : ok_sOneOf (w, k)) : dom ok_sOneOf ea_sOneOf [(0, true, [C.tr false (T.int IntKind.i64 w.c.chunks), C.tr false (T.int IntKind.i64 w.c.size), C.tr false (T.int IntKind.i64 w.c.slots), C.tr false (T.int IntKind.i64 w.c.tax), C.tr false (T.int IntKind.i64 w.c.slice), C.tr false (T.int IntKind.i64 w.c.gens), C.tr false (T.arr 1 w.p.mem.length (atL rowB w.p.mem)), C.tr false (T.arr 1 w.p.st.length (atL rowI w.p.st)), C.tr false (T.arr 1 w.p.own.length (atL rowI w.p.own)), C.tr false (T.arr 13 w.l.length (atL Nd.cs w.l)), C.tr false (T.arr 5 w.q.length (atL Ws.cs w.q)), C.tr false (T.arr 1 w.log.length (atL rowI w.log))]), (0, false, [C.tr false (T.int IntKind.i64 k)])] = true := dom_ea (ea := ea_sOneOf) (x := (w, k)) h
theorem iv_sOneOf {w : Wd} {k : Int} (h : ok_sOneOf (w, k)) : inv ok_sOneOf ea_sOneOf [(0, true, [C.tr false (T.int IntKind.i64 w.c.chunks), C.tr false (T.int IntKind.i64 w.c.size), C.tr false (T.int IntKind.i64 w.c.slots), C.tr false (T.int IntKind.i64 w.c.tax), C.tr false (T.int IntKind.i64 w.c.slice), C.tr false (T.int IntKind.i64 w.c.gens), C.tr false (T.arr 1 w.p.mem.length (atL rowB w.p.mem)), C.tr false (T.arr 1 w.p.st.length (atL rowI w.p.st)), C.tr false (T.arr 1 w.p.own.length (atL rowI w.p.own)), C.tr false (T.arr 13 w.l.length (atL Nd.cs w.l)), C.tr false (T.arr 5 w.q.length (atL Ws.cs w.q)), C.tr false (T.arr 1 w.log.length (atL rowI w.log))]), (0, false, [C.tr false (T.int IntKind.i64 k)])] = (w, k) := inv_ea ea_sOneOf_inj (x := (w, k)) h
theorem d_sOneOf (w : Wd) (k : Int) : f_sOneOf (w, k) = has (rms w.l) k := rfl
def i_sOneOf : Nat := 30
noncomputable abbrev F_sOneOf : Func := f30
def kp_sOneOf : List (Nat × List Nat) := [(0, [4, 8, 9]), (1, [16])]
def ts_sOneOf : List Nat := [0, 0]
theorem pre_sOneOf (w : Wd) (k : Int) (n : Nat) : body prog (tabS [(i_sRoomsIn, e_sRoomsIn), (i_l7Has, e_l7Has)]) kp_sOneOf n F_sOneOf [aR w.cs, aI k] = (
 entK ok_sRoomsIn ea_sRoomsIn (f_sRoomsIn) [(0, true,
    [C.tr false (T.int IntKind.i64 w.c.1), C.tr false (T.int IntKind.i64 w.c.2),
      C.tr false (T.int IntKind.i64 w.c.3), C.tr false (T.int IntKind.i64 w.c.4),
      C.tr false (T.int IntKind.i64 w.c.5), C.tr false (T.int IntKind.i64 w.c.6), C.tr false (eL 1 rowB w.p.1),
      C.tr false (eL 1 rowI w.p.2), C.tr false (eL 1 rowI w.p.3), C.tr false (eL 13 Nd.cs w.3),
      C.tr false (eL 5 Ws.cs w.4), C.tr false (eL 1 rowI w.5)])] fun (r1 : List Int) =>
 gd ((0 + r1.length).ble r1.length) <|
 entK ok_l7Has ea_l7Has (f_l7Has) [(0, false, [C.tr false (T.arr 1 r1.length (cutT 0 r1.length (atL rowI r1)))]),
  (0, false, [C.tr false (T.int IntKind.i64 k)])] fun (r2 : Bool) =>
 some ([(false, [.tr true (T.bool r2)])], [(false, []), (false, [])])) := by kernel_rfl
end Go.Mach.F