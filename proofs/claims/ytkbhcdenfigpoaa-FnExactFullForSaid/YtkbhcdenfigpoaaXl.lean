/- ChunksIn: equations. Conditions: none. -/
import Derived.Test.YtkbhcdenfigpoaaXi
import Derived.Test.YtkbhcdenfigpoaaXb
set_option linter.all false
namespace Go.Mach.F
open Go Go.Mach Go.Proofs.Try
--=set_option maxRecDepth 100000
def chkN (w : Wd) : Nat → Int
  | 0 => 0
  | i + 1 => IntKind.i64.wrap (chkN w i + ((own w.p.st w.p.own (ri (rms w.l) i)).length : Int))
def chk (w : Wd) : Int := chkN w (rms w.l).length
def ok_iChunksIn (x : Wd) : Prop := x.l.length ≤ LM ∧ upI x.l ∧ x.p.st.length ≤ LM ∧ x.p.own.length ≤ LM
def ea_iChunksIn (x : Wd) : List Arg := [aR x.cs]
def f_iChunksIn (x : Wd) : Int := chk x
noncomputable def e_iChunksIn : Ent := ent [] ok_iChunksIn ea_iChunksIn (erI 1) f_iChunksIn
theorem ea_iChunksIn_inj (x y : Wd) (h : ea_iChunksIn x = ea_iChunksIn y) : x = y := by
  simp only [ea_iChunksIn, List.cons.injEq, and_true, true_and] at h
  exact Wd.cs_ext (aR_inj h)
theorem dm_iChunksIn {w : Wd} (h : ok_iChunksIn w) : dom ok_iChunksIn ea_iChunksIn [(0, true, [C.tr false (T.int IntKind.i64 w.c.chunks), C.tr false (T.int IntKind.i64 w.c.size), C.tr false (T.int IntKind.i64 w.c.slots), C.tr false (T.int IntKind.i64 w.c.tax), C.tr false (T.int IntKind.i64 w.c.slice), C.tr false (T.int IntKind.i64 w.c.gens), C.tr false (T.arr 1 w.p.mem.length (atL rowB w.p.mem)), C.tr false (T.arr 1 w.p.st.length (atL rowI w.p.st)), C.tr false (T.arr 1 w.p.own.length (atL rowI w.p.own)), C.tr false (T.arr 13 w.l.length (atL Nd.cs w.l)), C.tr false (T.arr 5 w.q.length (atL Ws.cs w.q)), C.tr false (T.arr 1 w.log.length (atL rowI w.log))])] = true := dom_ea (ea := ea_iChunksIn) (x := w) h
theorem iv_iChunksIn {w : Wd} (h : ok_iChunksIn w) : inv ok_iChunksIn ea_iChunksIn [(0, true, [C.tr false (T.int IntKind.i64 w.c.chunks), C.tr false (T.int IntKind.i64 w.c.size), C.tr false (T.int IntKind.i64 w.c.slots), C.tr false (T.int IntKind.i64 w.c.tax), C.tr false (T.int IntKind.i64 w.c.slice), C.tr false (T.int IntKind.i64 w.c.gens), C.tr false (T.arr 1 w.p.mem.length (atL rowB w.p.mem)), C.tr false (T.arr 1 w.p.st.length (atL rowI w.p.st)), C.tr false (T.arr 1 w.p.own.length (atL rowI w.p.own)), C.tr false (T.arr 13 w.l.length (atL Nd.cs w.l)), C.tr false (T.arr 5 w.q.length (atL Ws.cs w.q)), C.tr false (T.arr 1 w.log.length (atL rowI w.log))])] = w := inv_ea ea_iChunksIn_inj (x := w) h
theorem d_iChunksIn (w : Wd) : f_iChunksIn w = chk w := rfl
def i_iChunksIn : Nat := 158
noncomputable abbrev F_iChunksIn : Func := f158
def kp_iChunksIn : List (Nat × List Nat) := [(0, [4, 5]), (1, [4, 5, 12]), (2, [4, 5, 12, 28, 32, 36]), (3, [4, 5, 12, 28, 32, 36, 40]), (4, [4, 5, 12, 20, 28, 32, 36]), (5, [4, 5, 12, 28, 32, 36]), (6, [4, 5, 12, 28, 32, 36]), (7, [8])]
def ts_iChunksIn : List Nat := [0]
def st_iChunksIn_1 (w : Wd) (r1 : List Int) (x12 : Int) (x36 : Int) : St := [(4, ⟨z0, [(false, [(C.pt (Pt.ptr 5 0 [] 12 0 0))])]⟩), (5, ⟨z0, [(true, [.tr true (T.int IntKind.i64 w.c.1), .tr true (T.int IntKind.i64 w.c.2), .tr true (T.int IntKind.i64 w.c.3), .tr true (T.int IntKind.i64 w.c.4), .tr true (T.int IntKind.i64 w.c.5), .tr true (T.int IntKind.i64 w.c.6), .tr false (eL 1 rowB w.p.1), .tr false (eL 1 rowI w.p.2), .tr false (eL 1 rowI w.p.3), .tr false (eL 13 Nd.cs w.3), .tr false (eL 5 Ws.cs w.4), .tr false (eL 1 rowI w.5)])]⟩), (12, ⟨z0, [(false, [.tr true (T.int IntKind.i64 x12)])]⟩), (28, ⟨z0, [(false, [.tr true (.arr (1) (r1.length) (atL rowI r1))])]⟩), (32, ⟨z0, [(false, [.tr true (T.int IntKind.i64 (↑r1.length : Int))])]⟩), (36, ⟨z0, [(false, [.tr true (T.int IntKind.i64 x36)])]⟩)]
def ex_iChunksIn_1_1 (w : Wd) (r1 : List Int) (x12 : Int) (x36 : Int) : St := [(4, ⟨z0, [(false, [(C.pt (Pt.ptr 5 0 [] 12 0 0))])]⟩), (5, ⟨z0, [(true, [.tr true (T.int IntKind.i64 w.c.1), .tr true (T.int IntKind.i64 w.c.2), .tr true (T.int IntKind.i64 w.c.3), .tr true (T.int IntKind.i64 w.c.4), .tr true (T.int IntKind.i64 w.c.5), .tr true (T.int IntKind.i64 w.c.6), .tr false (eL 1 rowB w.p.1), .tr false (eL 1 rowI w.p.2), .tr false (eL 1 rowI w.p.3), .tr false (eL 13 Nd.cs w.3), .tr false (eL 5 Ws.cs w.4), .tr false (eL 1 rowI w.5)])]⟩), (12, ⟨z0, [(false, [.tr true (T.int IntKind.i64 x12)])]⟩), (28, ⟨z0, [(false, [.tr true (.arr (1) (r1.length) (atL rowI r1))])]⟩), (32, ⟨z0, [(false, [.tr true (T.int IntKind.i64 (↑r1.length : Int))])]⟩), (36, ⟨z0, [(false, [.tr true (T.int IntKind.i64 x36)])]⟩), (40, ⟨z0, []⟩)]
theorem round_iChunksIn_1 (w : Wd) (r1 : List Int) (x12 : Int) (x36 : Int) (n : Nat) (K : Ex → St → Res) : roundAt prog (tabS [(i_iRoomsIn, e_iRoomsIn), (i_iOwn, e_iOwn)]) kp_iChunksIn F_iChunksIn [1, 1, 0, 1, 0] n (st_iChunksIn_1 w r1 x12 x36) K = (
 bif decide (x36 < (↑r1.length : Int)) then
  gd (decide (0 ≤ x36) && (x36.toNat.blt r1.length && true)) <|
  gd ((0 + x36.toNat).blt r1.length && true && T.isI IntKind.i64 (atL rowI r1 (0 + x36.toNat) 0)) <|
  entK ok_iOwn ea_iOwn (f_iOwn) [(0, true, [C.tr false (eL 1 rowB w.p.1), C.tr false (eL 1 rowI w.p.2), C.tr false (eL 1 rowI w.p.3)]),
  (0, false, [C.tr false (T.int IntKind.i64 (atL rowI r1 (0 + x36.toNat) 0).toI)])] fun (r2 : List Int) =>
  K .normal (st_iChunksIn_1 w r1 (IntKind.i64.wrap (x12 + (↑r2.length : Int))) (IntKind.i64.wrap (x36 + 1)))
 else
 K (.exit 0) (ex_iChunksIn_1_1 w r1 x12 x36)) := by kernel_rfl
theorem post_iChunksIn_1_1 (w : Wd) (r1 : List Int) (x12 : Int) (x36 : Int) (n : Nat) : contAt prog (tabS [(i_iRoomsIn, e_iRoomsIn), (i_iOwn, e_iOwn)]) kp_iChunksIn F_iChunksIn ts_iChunksIn [1, 1, 0, 1, 0] [] n (.exit 0) (ex_iChunksIn_1_1 w r1 x12 x36) = (
 some ([(false, [.tr true (T.int IntKind.i64 x12)])], [(false, [])])) := by kernel_rfl
theorem pre_iChunksIn (w : Wd) (n : Nat) : body prog (tabS [(i_iRoomsIn, e_iRoomsIn), (i_iOwn, e_iOwn)]) kp_iChunksIn n F_iChunksIn [aR w.cs] = (
 entK ok_iRoomsIn ea_iRoomsIn (f_iRoomsIn) [(0, true,
    [C.tr false (T.int IntKind.i64 w.c.1), C.tr false (T.int IntKind.i64 w.c.2),
      C.tr false (T.int IntKind.i64 w.c.3), C.tr false (T.int IntKind.i64 w.c.4),
      C.tr false (T.int IntKind.i64 w.c.5), C.tr false (T.int IntKind.i64 w.c.6), C.tr false (eL 1 rowB w.p.1),
      C.tr false (eL 1 rowI w.p.2), C.tr false (eL 1 rowI w.p.3), C.tr false (eL 13 Nd.cs w.3),
      C.tr false (eL 5 Ws.cs w.4), C.tr false (eL 1 rowI w.5)])] fun (r1 : List Int) =>
 loopAt prog (tabS [(i_iRoomsIn, e_iRoomsIn), (i_iOwn, e_iOwn)]) kp_iChunksIn F_iChunksIn [1, 1, 0, 1, 0] n n (st_iChunksIn_1 w r1 (0) (0)) (contAt prog (tabS [(i_iRoomsIn, e_iRoomsIn), (i_iOwn, e_iOwn)]) kp_iChunksIn F_iChunksIn ts_iChunksIn [1, 1, 0, 1, 0] [] n)) := by kernel_rfl
def ok_sChunksIn (x : Wd) : Prop := x.l.length ≤ LM ∧ upI x.l ∧ x.p.st.length ≤ LM ∧ x.p.own.length ≤ LM
def ea_sChunksIn (x : Wd) : List Arg := [aR x.cs]
def f_sChunksIn (x : Wd) : Int := chk x
noncomputable def e_sChunksIn : Ent := ent [] ok_sChunksIn ea_sChunksIn (erI 1) f_sChunksIn
theorem ea_sChunksIn_inj (x y : Wd) (h : ea_sChunksIn x = ea_sChunksIn y) : x = y := by
  simp only [ea_sChunksIn, List.cons.injEq, and_true, true_and] at h
  exact Wd.cs_ext (aR_inj h)
theorem dm_sChunksIn {w : Wd} (h : ok_sChunksIn w) : dom ok_sChunksIn ea_sChunksIn [(0, true, [C.tr false (T.int IntKind.i64 w.c.chunks), C.tr false (T.int IntKind.i64 w.c.size), C.tr false (T.int IntKind.i64 w.c.slots), C.tr false (T.int IntKind.i64 w.c.tax), C.tr false (T.int IntKind.i64 w.c.slice), C.tr false (T.int IntKind.i64 w.c.gens), C.tr false (T.arr 1 w.p.mem.length (atL rowB w.p.mem)), C.tr false (T.arr 1 w.p.st.length (atL rowI w.p.st)), C.tr false (T.arr 1 w.p.own.length (atL rowI w.p.own)), C.tr false (T.arr 13 w.l.length (atL Nd.cs w.l)), C.tr false (T.arr 5 w.q.length (atL Ws.cs w.q)), C.tr false (T.arr 1 w.log.length (atL rowI w.log))])] = true := dom_ea (ea := ea_sChunksIn) (x := w) h
theorem iv_sChunksIn {w : Wd} (h : ok_sChunksIn w) : inv ok_sChunksIn ea_sChunksIn [(0, true, [C.tr false (T.int IntKind.i64 w.c.chunks), C.tr false (T.int IntKind.i64 w.c.size), C.tr false (T.int IntKind.i64 w.c.slots), C.tr false (T.int IntKind.i64 w.c.tax), C.tr false (T.int IntKind.i64 w.c.slice), C.tr false (T.int IntKind.i64 w.c.gens), C.tr false (T.arr 1 w.p.mem.length (atL rowB w.p.mem)), C.tr false (T.arr 1 w.p.st.length (atL rowI w.p.st)), C.tr false (T.arr 1 w.p.own.length (atL rowI w.p.own)), C.tr false (T.arr 13 w.l.length (atL Nd.cs w.l)), C.tr false (T.arr 5 w.q.length (atL Ws.cs w.q)), C.tr false (T.arr 1 w.log.length (atL rowI w.log))])] = w := inv_ea ea_sChunksIn_inj (x := w) h
theorem d_sChunksIn (w : Wd) : f_sChunksIn w = chk w := rfl
def i_sChunksIn : Nat := 157
noncomputable abbrev F_sChunksIn : Func := f157
def kp_sChunksIn : List (Nat × List Nat) := [(0, [4, 5]), (1, [4, 5, 12]), (2, [4, 5, 12, 16]), (3, [4, 5, 12, 16, 20]), (4, [4, 5, 12, 16, 20, 44]), (5, [4, 5, 12, 16, 20]), (6, [4, 5, 12, 16, 20]), (7, [8])]
def ts_sChunksIn : List Nat := [0]
def st_sChunksIn_1 (w : Wd) (r1 : List Int) (x12 : Int) (x20 : Int) : St := [(4, ⟨z0, [(false, [(C.pt (Pt.ptr 5 0 [] 12 0 0))])]⟩), (5, ⟨z0, [(true, [.tr true (T.int IntKind.i64 w.c.1), .tr true (T.int IntKind.i64 w.c.2), .tr true (T.int IntKind.i64 w.c.3), .tr true (T.int IntKind.i64 w.c.4), .tr true (T.int IntKind.i64 w.c.5), .tr true (T.int IntKind.i64 w.c.6), .tr false (eL 1 rowB w.p.1), .tr false (eL 1 rowI w.p.2), .tr false (eL 1 rowI w.p.3), .tr false (eL 13 Nd.cs w.3), .tr false (eL 5 Ws.cs w.4), .tr false (eL 1 rowI w.5)])]⟩), (12, ⟨z0, [(false, [.tr true (T.int IntKind.i64 x12)])]⟩), (16, ⟨z0, [(false, [.tr true (.arr (1) (r1.length) (atL rowI r1))])]⟩), (20, ⟨z0, [(false, [.tr true (T.int IntKind.i64 x20)])]⟩)]
def ex_sChunksIn_1_1 (w : Wd) (r1 : List Int) (x12 : Int) (x20 : Int) : St := [(4, ⟨z0, [(false, [(C.pt (Pt.ptr 5 0 [] 12 0 0))])]⟩), (5, ⟨z0, [(true, [.tr true (T.int IntKind.i64 w.c.1), .tr true (T.int IntKind.i64 w.c.2), .tr true (T.int IntKind.i64 w.c.3), .tr true (T.int IntKind.i64 w.c.4), .tr true (T.int IntKind.i64 w.c.5), .tr true (T.int IntKind.i64 w.c.6), .tr false (eL 1 rowB w.p.1), .tr false (eL 1 rowI w.p.2), .tr false (eL 1 rowI w.p.3), .tr false (eL 13 Nd.cs w.3), .tr false (eL 5 Ws.cs w.4), .tr false (eL 1 rowI w.5)])]⟩), (12, ⟨z0, [(false, [.tr true (T.int IntKind.i64 x12)])]⟩), (16, ⟨z0, [(false, [.tr true (.arr (1) (r1.length) (atL rowI r1))])]⟩), (20, ⟨z0, [(false, [.tr true (T.int IntKind.i64 x20)])]⟩), (44, ⟨z0, []⟩)]
theorem round_sChunksIn_1 (w : Wd) (r1 : List Int) (x12 : Int) (x20 : Int) (n : Nat) (K : Ex → St → Res) : roundAt prog (tabS [(i_sRoomsIn, e_sRoomsIn), (i_sOwn, e_sOwn)]) kp_sChunksIn F_sChunksIn [1, 1, 1, 0, 1, 0] n (st_sChunksIn_1 w r1 x12 x20) K = (
 bif decide (x20 < (↑r1.length : Int)) then
  gd (decide (0 ≤ x20) && (x20.toNat.blt r1.length && true)) <|
  gd ((0 + x20.toNat).blt r1.length && true && T.isI IntKind.i64 (atL rowI r1 (0 + x20.toNat) 0)) <|
  entK ok_sOwn ea_sOwn (f_sOwn) [(0, true, [C.tr false (eL 1 rowB w.p.1), C.tr false (eL 1 rowI w.p.2), C.tr false (eL 1 rowI w.p.3)]),
  (0, false, [C.tr false (T.int IntKind.i64 (atL rowI r1 (0 + x20.toNat) 0).toI)])] fun (r2 : List Int) =>
  K .normal (st_sChunksIn_1 w r1 (IntKind.i64.wrap (x12 + (↑r2.length : Int))) (IntKind.i64.wrap (x20 + 1)))
 else
 K (.exit 0) (ex_sChunksIn_1_1 w r1 x12 x20)) := by kernel_rfl
theorem post_sChunksIn_1_1 (w : Wd) (r1 : List Int) (x12 : Int) (x20 : Int) (n : Nat) : contAt prog (tabS [(i_sRoomsIn, e_sRoomsIn), (i_sOwn, e_sOwn)]) kp_sChunksIn F_sChunksIn ts_sChunksIn [1, 1, 1, 0, 1, 0] [] n (.exit 0) (ex_sChunksIn_1_1 w r1 x12 x20) = (
 some ([(false, [.tr true (T.int IntKind.i64 x12)])], [(false, [])])) := by kernel_rfl
theorem pre_sChunksIn (w : Wd) (n : Nat) : body prog (tabS [(i_sRoomsIn, e_sRoomsIn), (i_sOwn, e_sOwn)]) kp_sChunksIn n F_sChunksIn [aR w.cs] = (
 entK ok_sRoomsIn ea_sRoomsIn (f_sRoomsIn) [(0, true,
    [C.tr false (T.int IntKind.i64 w.c.1), C.tr false (T.int IntKind.i64 w.c.2),
      C.tr false (T.int IntKind.i64 w.c.3), C.tr false (T.int IntKind.i64 w.c.4),
      C.tr false (T.int IntKind.i64 w.c.5), C.tr false (T.int IntKind.i64 w.c.6), C.tr false (eL 1 rowB w.p.1),
      C.tr false (eL 1 rowI w.p.2), C.tr false (eL 1 rowI w.p.3), C.tr false (eL 13 Nd.cs w.3),
      C.tr false (eL 5 Ws.cs w.4), C.tr false (eL 1 rowI w.5)])] fun (r1 : List Int) =>
 gd (r1.length.ble r1.length && true) <|
 loopAt prog (tabS [(i_sRoomsIn, e_sRoomsIn), (i_sOwn, e_sOwn)]) kp_sChunksIn F_sChunksIn [1, 1, 1, 0, 1, 0] n n (st_sChunksIn_1 w r1 (0) (0)) (contAt prog (tabS [(i_sRoomsIn, e_sRoomsIn), (i_sOwn, e_sOwn)]) kp_sChunksIn F_sChunksIn ts_sChunksIn [1, 1, 1, 0, 1, 0] [] n)) := by kernel_rfl
end Go.Mach.F