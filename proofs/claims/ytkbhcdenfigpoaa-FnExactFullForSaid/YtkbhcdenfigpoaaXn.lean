/- FitsMore: equations. Conditions: none. -/
import Derived.Test.YtkbhcdenfigpoaaXm
set_option linter.all false
namespace Go.Mach.F
open Go Go.Mach Go.Proofs.Try
--=set_option maxRecDepth 100000
def fitsM (w : Wd) (n : Int) : Bool := (decide (0 ≤ n) && decide (n ≤ w.c.chunks)) && decide (chk w ≤ IntKind.i64.wrap (w.c.chunks - n))
def ok_iFitsMore (x : Wd × Int) : Prop := x.1.l.length ≤ LM ∧ upI x.1.l ∧ x.1.p.st.length ≤ LM ∧ x.1.p.own.length ≤ LM
def ea_iFitsMore (x : Wd × Int) : List Arg := [aR x.1.cs, aI x.2]
def f_iFitsMore (x : Wd × Int) : Bool := fitsM x.1 x.2
noncomputable def e_iFitsMore : Ent := ent [] ok_iFitsMore ea_iFitsMore (erB 2) f_iFitsMore
theorem ea_iFitsMore_inj (x y : Wd × Int) (h : ea_iFitsMore x = ea_iFitsMore y) : x = y := by
  obtain ⟨w1, n1⟩ := x
  obtain ⟨w2, n2⟩ := y
  simp only [ea_iFitsMore, List.cons.injEq, and_true, true_and] at h
  obtain ⟨e0, e1⟩ := h
  obtain rfl := Wd.cs_ext (aR_inj e0)
  obtain rfl := aI_inj e1
  rfl
theorem dm_iFitsMore {w : Wd} {n : Int} (h : ok_iFitsMore (w, n)) : dom ok_iFitsMore ea_iFitsMore [(0, true, [C.tr false (T.int IntKind.i64 w.c.chunks), C.tr false (T.int IntKind.i64 w.c.size), C.tr false (T.int IntKind.i64 w.c.slots), C.tr false (T.int IntKind.i64 w.c.tax), C.tr false (T.int IntKind.i64 w.c.slice), C.tr false (T.int IntKind.i64 w.c.gens), C.tr false (T.arr 1 w.p.mem.length (atL rowB w.p.mem)), C.tr false (T.arr 1 w.p.st.length (atL rowI w.p.st)), C.tr false (T.arr 1 w.p.own.length (atL rowI w.p.own)), C.tr false (T.arr 13 w.l.length (atL Nd.cs w.l)), C.tr false (T.arr 5 w.q.length (atL Ws.cs w.q)), C.tr false (T.arr 1 w.log.length (atL rowI w.log))]), (0, false, [C.tr false (T.int IntKind.i64 n)])] = true := dom_ea (ea := ea_iFitsMore) (x := (w, n)) h
theorem iv_iFitsMore {w : Wd} {n : Int} (h : ok_iFitsMore (w, n)) : inv ok_iFitsMore ea_iFitsMore [(0, true, [C.tr false (T.int IntKind.i64 w.c.chunks), C.tr false (T.int IntKind.i64 w.c.size), C.tr false (T.int IntKind.i64 w.c.slots), C.tr false (T.int IntKind.i64 w.c.tax), C.tr false (T.int IntKind.i64 w.c.slice), C.tr false (T.int IntKind.i64 w.c.gens), C.tr false (T.arr 1 w.p.mem.length (atL rowB w.p.mem)), C.tr false (T.arr 1 w.p.st.length (atL rowI w.p.st)), C.tr false (T.arr 1 w.p.own.length (atL rowI w.p.own)), C.tr false (T.arr 13 w.l.length (atL Nd.cs w.l)), C.tr false (T.arr 5 w.q.length (atL Ws.cs w.q)), C.tr false (T.arr 1 w.log.length (atL rowI w.log))]), (0, false, [C.tr false (T.int IntKind.i64 n)])] = (w, n) := inv_ea ea_iFitsMore_inj (x := (w, n)) h
theorem d_iFitsMore (w : Wd) (n : Int) : f_iFitsMore (w, n) = fitsM w n := rfl
def i_iFitsMore : Nat := 97
noncomputable abbrev F_iFitsMore : Func := f97
def kp_iFitsMore : List (Nat × List Nat) := [(0, [4, 8, 9, 32, 36, 40, 44, 48, 60, 64, 68, 72, 76, 80, 84, 88]), (1, [16])]
def ts_iFitsMore : List Nat := [0, 0]
theorem pre_iFitsMore (w : Wd) (m : Int) (n : Nat) : body prog (tabS [(i_iChunksIn, e_iChunksIn)]) kp_iFitsMore n F_iFitsMore [aR w.cs, aI m] = (
 bif decide (0 ≤ m) then
  bif decide (m ≤ w.c.1) then
   entK ok_iChunksIn ea_iChunksIn (f_iChunksIn) [(0, true,
    [C.tr false (T.int IntKind.i64 w.c.1), C.tr false (T.int IntKind.i64 w.c.2),
      C.tr false (T.int IntKind.i64 w.c.3), C.tr false (T.int IntKind.i64 w.c.4),
      C.tr false (T.int IntKind.i64 w.c.5), C.tr false (T.int IntKind.i64 w.c.6), C.tr false (eL 1 rowB w.p.1),
      C.tr false (eL 1 rowI w.p.2), C.tr false (eL 1 rowI w.p.3), C.tr false (eL 13 Nd.cs w.3),
      C.tr false (eL 5 Ws.cs w.4), C.tr false (eL 1 rowI w.5)])] fun (r1 : Int) =>
   some ([(false, [.tr true (T.bool (decide (r1 ≤ IntKind.i64.wrap (w.c.1 - m))))])], [(false, []), (false, [])])
  else
  some ([(false, [.tr true (T.bool false)])], [(false, []), (false, [])])
 else
 some ([(false, [.tr true (T.bool false)])], [(false, []), (false, [])])) := by kernel_rfl
def ok_sFitsMore (x : Wd × Int) : Prop := x.1.l.length ≤ LM ∧ upI x.1.l ∧ x.1.p.st.length ≤ LM ∧ x.1.p.own.length ≤ LM
def ea_sFitsMore (x : Wd × Int) : List Arg := [aR x.1.cs, aI x.2]
def f_sFitsMore (x : Wd × Int) : Bool := fitsM x.1 x.2
noncomputable def e_sFitsMore : Ent := ent [] ok_sFitsMore ea_sFitsMore (erB 2) f_sFitsMore
theorem ea_sFitsMore_inj (x y : Wd × Int) (h : ea_sFitsMore x = ea_sFitsMore y) : x = y := by
  obtain ⟨w1, n1⟩ := x
  obtain ⟨w2, n2⟩ := y
  simp only [ea_sFitsMore, List.cons.injEq, and_true, true_and] at h
  obtain ⟨e0, e1⟩ := h
  obtain rfl := Wd.cs_ext (aR_inj e0)
  obtain rfl := aI_inj e1
  rfl
theorem dm_sFitsMore {w : Wd} {n : Int} (h : ok_sFitsMore (w, n)) : dom ok_sFitsMore ea_sFitsMore [(0, true, [C.tr false (T.int IntKind.i64 w.c.chunks), C.tr false (T.int IntKind.i64 w.c.size), C.tr false (T.int IntKind.i64 w.c.slots), C.tr false (T.int IntKind.i64 w.c.tax), C.tr false (T.int IntKind.i64 w.c.slice), C.tr false (T.int IntKind.i64 w.c.gens), C.tr false (T.arr 1 w.p.mem.length (atL rowB w.p.mem)), C.tr false (T.arr 1 w.p.st.length (atL rowI w.p.st)), C.tr false (T.arr 1 w.p.own.length (atL rowI w.p.own)), C.tr false (T.arr 13 w.l.length (atL Nd.cs w.l)), C.tr false (T.arr 5 w.q.length (atL Ws.cs w.q)), C.tr false (T.arr 1 w.log.length (atL rowI w.log))]), (0, false, [C.tr false (T.int IntKind.i64 n)])] = true := dom_ea (ea := ea_sFitsMore) (x := (w, n)) h
theorem iv_sFitsMore {w : Wd} {n : Int} (h : ok_sFitsMore (w, n)) : inv ok_sFitsMore ea_sFitsMore [(0, true, [C.tr false (T.int IntKind.i64 w.c.chunks), C.tr false (T.int IntKind.i64 w.c.size), C.tr false (T.int IntKind.i64 w.c.slots), C.tr false (T.int IntKind.i64 w.c.tax), C.tr false (T.int IntKind.i64 w.c.slice), C.tr false (T.int IntKind.i64 w.c.gens), C.tr false (T.arr 1 w.p.mem.length (atL rowB w.p.mem)), C.tr false (T.arr 1 w.p.st.length (atL rowI w.p.st)), C.tr false (T.arr 1 w.p.own.length (atL rowI w.p.own)), C.tr false (T.arr 13 w.l.length (atL Nd.cs w.l)), C.tr false (T.arr 5 w.q.length (atL Ws.cs w.q)), C.tr false (T.arr 1 w.log.length (atL rowI w.log))]), (0, false, [C.tr false (T.int IntKind.i64 n)])] = (w, n) := inv_ea ea_sFitsMore_inj (x := (w, n)) h
theorem d_sFitsMore (w : Wd) (n : Int) : f_sFitsMore (w, n) = fitsM w n := rfl
def i_sFitsMore : Nat := 96
noncomputable abbrev F_sFitsMore : Func := f96
def kp_sFitsMore : List (Nat × List Nat) := [(0, [4, 8, 9, 32, 36, 40, 44, 48, 60, 64, 68, 72, 76, 80, 84, 88]), (1, [16])]
def ts_sFitsMore : List Nat := [0, 0]
theorem pre_sFitsMore (w : Wd) (m : Int) (n : Nat) : body prog (tabS [(i_sChunksIn, e_sChunksIn)]) kp_sFitsMore n F_sFitsMore [aR w.cs, aI m] = (
 bif decide (0 ≤ m) then
  bif decide (m ≤ w.c.1) then
   entK ok_sChunksIn ea_sChunksIn (f_sChunksIn) [(0, true,
    [C.tr false (T.int IntKind.i64 w.c.1), C.tr false (T.int IntKind.i64 w.c.2),
      C.tr false (T.int IntKind.i64 w.c.3), C.tr false (T.int IntKind.i64 w.c.4),
      C.tr false (T.int IntKind.i64 w.c.5), C.tr false (T.int IntKind.i64 w.c.6), C.tr false (eL 1 rowB w.p.1),
      C.tr false (eL 1 rowI w.p.2), C.tr false (eL 1 rowI w.p.3), C.tr false (eL 13 Nd.cs w.3),
      C.tr false (eL 5 Ws.cs w.4), C.tr false (eL 1 rowI w.5)])] fun (r1 : Int) =>
   some ([(false, [.tr true (T.bool (decide (r1 ≤ IntKind.i64.wrap (w.c.1 - m))))])], [(false, []), (false, [])])
  else
  some ([(false, [.tr true (T.bool false)])], [(false, []), (false, [])])
 else
 some ([(false, [.tr true (T.bool false)])], [(false, []), (false, [])])) := by kernel_rfl
end Go.Mach.F