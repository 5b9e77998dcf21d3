/- Lemmas and definitions of the proof (Lc Vf Dd De Df Ld Xf Xi Wx Le Oa Ob Oc Ya Dg Dh Yb Yc Fn). Conditions: none. -/
import Derived.Test.YtefcnddlkdfjmaaZ3
set_option linter.all false
namespace Go.Mach.F
open Go Go.Mach Go.Proofs.Try
--=set_option maxRecDepth 100000
/-- What the walk over a node relies on. -/
def ndI (l : List Nd) : Prop := ∀ x ∈ l, inI x.next ∧ inI x.first ∧ x.things.length ≤ LM ∧ (∀ t ∈ x.things, inI t.len) ∧ x.tags.length ≤ LM
def seenR (w : Wd) (k : Int) : Rm := bif decide (0 ≤ k) && decide (k < (w.l.length : Int)) then ⟨hdAt w.l k, hdAt w.l (IntKind.i64.wrap ((nd w.l k).up - 1)), (kids w.l (nd w.l k).first).map (hdAt w.l), (nd w.l k).ep, (nd w.l k).chunks.length, !decide ((nd w.l k).cur = 0), (nd w.l k).bump, (nd w.l k).things.map (fun t => ⟨(rdT w.p.mem t 0 t.len).1⟩), (nd w.l k).tags⟩ else zRm
def ok_iSeen (x : Wd × Int) : Prop := x.1.l.length ≤ LM ∧ x.1.p.mem.length ≤ LM ∧ inI x.2 ∧ ndI x.1.l
def ea_iSeen (x : Wd × Int) : List Arg := [aR x.1.cs, aI x.2]
def f_iSeen (x : Wd × Int) : Rm := seenR x.1 x.2
noncomputable def e_iSeen : Ent := ent [] ok_iSeen ea_iSeen (fun r => erR 2 r.cs) f_iSeen
theorem ea_iSeen_inj (x y : Wd × Int) (h : ea_iSeen x = ea_iSeen y) : x = y := by
  obtain ⟨w1, k1⟩ := x
  obtain ⟨w2, k2⟩ := y
  simp only [ea_iSeen, List.cons.injEq, and_true, true_and] at h
  obtain ⟨e0, e1⟩ := h
  obtain rfl := Wd.cs_ext (aR_inj e0)
  obtain rfl := aI_inj e1
  rfl
theorem dm_iSeen {w : Wd} {k : Int} (h : ok_iSeen (w, k)) : dom ok_iSeen ea_iSeen [(0, true, [C.tr false (T.int IntKind.i64 w.c.chunks), C.tr false (T.int IntKind.i64 w.c.size), C.tr false (T.int IntKind.i64 w.c.slots), C.tr false (T.int IntKind.i64 w.c.tax), C.tr false (T.int IntKind.i64 w.c.slice), C.tr false (T.int IntKind.i64 w.c.gens), C.tr false (T.arr 1 w.p.mem.length (atL rowB w.p.mem)), C.tr false (T.arr 1 w.p.st.length (atL rowI w.p.st)), C.tr false (T.arr 1 w.p.own.length (atL rowI w.p.own)), C.tr false (T.arr 13 w.l.length (atL Nd.cs w.l)), C.tr false (T.arr 5 w.q.length (atL Ws.cs w.q)), C.tr false (T.arr 1 w.log.length (atL rowI w.log))]), (0, false, [C.tr false (T.int IntKind.i64 k)])] = true := dom_ea (ea := ea_iSeen) (x := (w, k)) h
theorem iv_iSeen {w : Wd} {k : Int} (h : ok_iSeen (w, k)) : inv ok_iSeen ea_iSeen [(0, true, [C.tr false (T.int IntKind.i64 w.c.chunks), C.tr false (T.int IntKind.i64 w.c.size), C.tr false (T.int IntKind.i64 w.c.slots), C.tr false (T.int IntKind.i64 w.c.tax), C.tr false (T.int IntKind.i64 w.c.slice), C.tr false (T.int IntKind.i64 w.c.gens), C.tr false (T.arr 1 w.p.mem.length (atL rowB w.p.mem)), C.tr false (T.arr 1 w.p.st.length (atL rowI w.p.st)), C.tr false (T.arr 1 w.p.own.length (atL rowI w.p.own)), C.tr false (T.arr 13 w.l.length (atL Nd.cs w.l)), C.tr false (T.arr 5 w.q.length (atL Ws.cs w.q)), C.tr false (T.arr 1 w.log.length (atL rowI w.log))]), (0, false, [C.tr false (T.int IntKind.i64 k)])] = (w, k) := inv_ea ea_iSeen_inj (x := (w, k)) h
theorem d_iSeen (w : Wd) (k : Int) : f_iSeen (w, k) = seenR w k := rfl
def i_iSeen : Nat := 23
noncomputable abbrev F_iSeen : Func := f23
def kp_iSeen : List (Nat × List Nat) := [(0, [4, 8, 9, 16, 17, 24, 25, 72, 108, 132, 140, 152, 164, 172, 184, 188, 372]), (1, [4, 8, 9, 16, 17, 24, 25, 68, 72, 108, 132, 140, 152, 164, 172, 184, 188, 372]), (2, [16, 17, 24, 25, 72, 108, 132, 140, 152, 164, 172, 184, 188, 372]), (3, [4, 8, 9, 16, 17, 20, 21, 24, 25, 72, 76, 80, 84, 88, 92, 108, 132, 140, 152, 164, 172, 184, 188, 372]), (4, [8, 9, 16, 17, 20, 21, 24, 25, 72, 76, 80, 84, 88, 92, 108, 132, 140, 152, 164, 172, 184, 188, 372]), (5, [8, 9, 16, 17, 20, 21, 24, 25, 72, 76, 80, 84, 88, 92, 108, 132, 140, 152, 164, 172, 184, 188, 208, 212, 216, 372]), (6, [8, 9, 16, 17, 20, 21, 24, 25, 72, 76, 80, 84, 88, 92, 108, 132, 140, 152, 164, 172, 184, 188, 208, 212, 216, 220, 372]), (7, [8, 9, 16, 17, 20, 21, 24, 25, 32, 72, 76, 80, 84, 88, 92, 108, 132, 140, 152, 164, 172, 184, 188, 208, 212, 216, 372]), (8, [8, 9, 16, 17, 20, 21, 24, 25, 72, 76, 80, 84, 88, 92, 108, 132, 140, 152, 164, 172, 184, 188, 208, 212, 216, 372]), (9, [8, 9, 16, 17, 20, 21, 24, 25, 72, 76, 80, 84, 88, 92, 108, 132, 140, 152, 164, 172, 184, 188, 208, 212, 216, 372]), (10, [8, 9, 16, 17, 20, 21, 24, 25, 72, 76, 80, 84, 88, 92, 108, 132, 140, 152, 164, 172, 184, 188, 272, 276, 280, 284, 372]), (11, [8, 9, 16, 17, 20, 21, 24, 25, 72, 76, 80, 84, 88, 92, 108, 132, 140, 152, 164, 172, 184, 188, 272, 276, 280, 284, 288, 372]), (12, [8, 9, 16, 17, 20, 21, 24, 25, 40, 41, 72, 76, 80, 84, 88, 92, 108, 132, 140, 152, 164, 172, 184, 188, 272, 276, 280, 284, 372]), (13, [8, 9, 16, 17, 20, 21, 24, 25, 44, 72, 76, 80, 84, 88, 92, 108, 132, 140, 152, 164, 172, 184, 188, 272, 276, 280, 284, 372]), (14, [8, 9, 16, 17, 20, 21, 24, 25, 72, 76, 80, 84, 88, 92, 108, 132, 140, 152, 164, 172, 184, 188, 272, 276, 280, 284, 372]), (15, [8, 9, 16, 17, 20, 21, 24, 25, 72, 76, 80, 84, 88, 92, 108, 132, 140, 152, 164, 172, 184, 188, 272, 276, 280, 284, 372]), (16, [16, 17, 24, 25, 72, 108, 132, 140, 152, 164, 172, 184, 188, 372])]
def ts_iSeen : List Nat := [0, 0]
def st_iSeen_1 (w : Wd) (k : Int) (r1 : Hd) (r2 : Hd) (r3 : List Int) (r4 : List Int) (nx25_4 : Nat) (fx25_4 : Nat → Nat → T) (x216 : Int) : St := [(8, ⟨z0, [(false, [(C.pt (Pt.ptr 9 0 [] 12 0 0))])]⟩), (9, ⟨z0, [(true, [.tr true (T.int IntKind.i64 w.c.1), .tr true (T.int IntKind.i64 w.c.2), .tr true (T.int IntKind.i64 w.c.3), .tr true (T.int IntKind.i64 w.c.4), .tr true (T.int IntKind.i64 w.c.5), .tr true (T.int IntKind.i64 w.c.6), .tr false (eL 1 rowB w.p.1), .tr false (eL 1 rowI w.p.2), .tr false (eL 1 rowI w.p.3), .tr false (eL 13 Nd.cs w.3), .tr false (eL 5 Ws.cs w.4), .tr false (eL 1 rowI w.5)])]⟩), (16, ⟨z0, [(false, [(C.pt (Pt.ptr 17 0 [] 11 0 0))])]⟩), (17, ⟨z0, [(true, [.tr true (T.int IntKind.i64 0), .tr true (T.int IntKind.i64 0), .tr true (T.int IntKind.i64 0), .tr true (T.int IntKind.i64 0), .tr true (.arr (2) (0) (fun x x_1 => T.hole)), .tr true (T.int IntKind.i64 0), .tr true (T.int IntKind.i64 0), .tr true (T.bool false), .tr true (T.int IntKind.i64 0), .tr true (.arr (1) (0) (fun x x_1 => T.hole)), .tr true (.arr (1) (0) (fun x x_1 => T.hole))])]⟩), (20, ⟨z0, [(false, [(C.pt (Pt.ptr 21 0 [] 13 0 0))])]⟩), (21, ⟨z0, [(true, [.tr true (T.int IntKind.i64 (atL Nd.cs w.3 k.toNat 0).toI), .tr true (T.int IntKind.i64 (atL Nd.cs w.3 k.toNat 1).toI), .tr true (T.int IntKind.i64 (atL Nd.cs w.3 k.toNat 2).toI), .tr true (T.int IntKind.i64 (atL Nd.cs w.3 k.toNat 3).toI), .tr true (T.int IntKind.i64 (atL Nd.cs w.3 k.toNat 4).toI), .tr true (T.int IntKind.i64 (atL Nd.cs w.3 k.toNat 5).toI), .tr true (T.int IntKind.i64 (atL Nd.cs w.3 k.toNat 6).toI), .tr true (T.int IntKind.i64 (atL Nd.cs w.3 k.toNat 7).toI), .tr false (.arr (1) ((atL Nd.cs w.3 k.toNat 8).ln) ((atL Nd.cs w.3 k.toNat 8).fn)), .tr true (T.int IntKind.i64 (atL Nd.cs w.3 k.toNat 9).toI), .tr true (T.int IntKind.i64 (atL Nd.cs w.3 k.toNat 10).toI), .tr false (.arr (3) ((atL Nd.cs w.3 k.toNat 11).ln) ((atL Nd.cs w.3 k.toNat 11).fn)), .tr false (.arr (1) ((atL Nd.cs w.3 k.toNat 12).ln) ((atL Nd.cs w.3 k.toNat 12).fn))])]⟩), (24, ⟨z0, [(false, [(C.pt (Pt.ptr 25 0 [] 11 0 0))])]⟩), (25, ⟨z0, [(true, [.tr true (T.int IntKind.i64 r1.1), .tr true (T.int IntKind.i64 r1.2), .tr true (T.int IntKind.i64 r2.1), .tr true (T.int IntKind.i64 r2.2), .tr true (.arr (2) (nx25_4) (fx25_4)), .tr true (T.int IntKind.i64 (atL Nd.cs w.3 k.toNat 2).toI), .tr true (T.int IntKind.i64 (↑(atL Nd.cs w.3 k.toNat 8).ln : Int)), .tr true (T.bool ((atL Nd.cs w.3 k.toNat 9).toI != 0)), .tr true (T.int IntKind.i64 (atL Nd.cs w.3 k.toNat 10).toI), .tr true (.arr (1) (0) (fun x x_1 => T.hole)), .tr true (.arr (1) (r3.length) (atL rowI r3))])]⟩), (76, ⟨z0, [(false, [(C.pt (Pt.ptr 9 0 [] 12 0 9))])]⟩), (80, ⟨z0, [(false, [.tr false (eL 13 Nd.cs w.3)])]⟩), (84, ⟨z0, [(false, [.tr true (T.int IntKind.i64 k)])]⟩), (88, ⟨z0, [(false, [(C.pt (Pt.pim 13 (atL Nd.cs w.3 k.toNat)))])]⟩), (92, ⟨z0, [(true, [.tr true (T.int IntKind.i64 (atL Nd.cs w.3 k.toNat 0).toI), .tr true (T.int IntKind.i64 (atL Nd.cs w.3 k.toNat 1).toI), .tr true (T.int IntKind.i64 (atL Nd.cs w.3 k.toNat 2).toI), .tr true (T.int IntKind.i64 (atL Nd.cs w.3 k.toNat 3).toI), .tr true (T.int IntKind.i64 (atL Nd.cs w.3 k.toNat 4).toI), .tr true (T.int IntKind.i64 (atL Nd.cs w.3 k.toNat 5).toI), .tr true (T.int IntKind.i64 (atL Nd.cs w.3 k.toNat 6).toI), .tr true (T.int IntKind.i64 (atL Nd.cs w.3 k.toNat 7).toI), .tr false (.arr (1) ((atL Nd.cs w.3 k.toNat 8).ln) ((atL Nd.cs w.3 k.toNat 8).fn)), .tr true (T.int IntKind.i64 (atL Nd.cs w.3 k.toNat 9).toI), .tr true (T.int IntKind.i64 (atL Nd.cs w.3 k.toNat 10).toI), .tr false (.arr (3) ((atL Nd.cs w.3 k.toNat 11).ln) ((atL Nd.cs w.3 k.toNat 11).fn)), .tr false (.arr (1) ((atL Nd.cs w.3 k.toNat 12).ln) ((atL Nd.cs w.3 k.toNat 12).fn))])]⟩), (108, ⟨z0, [(true, [.tr true (T.int IntKind.i64 r1.1), .tr true (T.int IntKind.i64 r1.2)])]⟩), (132, ⟨z0, [(true, [.tr true (T.int IntKind.i64 r2.1), .tr true (T.int IntKind.i64 r2.2)])]⟩), (140, ⟨z0, [(false, [.tr true (T.int IntKind.i64 (atL Nd.cs w.3 k.toNat 2).toI)])]⟩), (152, ⟨z0, [(false, [.tr true (T.int IntKind.i64 (↑(atL Nd.cs w.3 k.toNat 8).ln : Int))])]⟩), (164, ⟨z0, [(false, [.tr true (T.bool ((atL Nd.cs w.3 k.toNat 9).toI != 0))])]⟩), (172, ⟨z0, [(false, [.tr true (T.int IntKind.i64 (atL Nd.cs w.3 k.toNat 10).toI)])]⟩), (184, ⟨z0, [(false, [.tr true (T.hole)])]⟩), (188, ⟨z0, [(true, [.tr true (T.int IntKind.i64 r1.1), .tr true (T.int IntKind.i64 r1.2), .tr true (T.int IntKind.i64 r2.1), .tr true (T.int IntKind.i64 r2.2), .tr true (T.hole), .tr true (T.int IntKind.i64 (atL Nd.cs w.3 k.toNat 2).toI), .tr true (T.int IntKind.i64 (↑(atL Nd.cs w.3 k.toNat 8).ln : Int)), .tr true (T.bool ((atL Nd.cs w.3 k.toNat 9).toI != 0)), .tr true (T.int IntKind.i64 (atL Nd.cs w.3 k.toNat 10).toI), .tr true (T.hole), .tr true (T.hole)])]⟩), (208, ⟨z0, [(false, [.tr true (.arr (1) (r4.length) (atL rowI r4))])]⟩), (212, ⟨z0, [(false, [.tr true (T.int IntKind.i64 (↑r4.length : Int))])]⟩), (216, ⟨z0, [(false, [.tr true (T.int IntKind.i64 x216)])]⟩)]
def ex_iSeen_1_1 (w : Wd) (k : Int) (r1 : Hd) (r2 : Hd) (r3 : List Int) (r4 : List Int) (nx25_4 : Nat) (fx25_4 : Nat → Nat → T) (x216 : Int) : St := [(8, ⟨z0, [(false, [(C.pt (Pt.ptr 9 0 [] 12 0 0))])]⟩), (9, ⟨z0, [(true, [.tr true (T.int IntKind.i64 w.c.1), .tr true (T.int IntKind.i64 w.c.2), .tr true (T.int IntKind.i64 w.c.3), .tr true (T.int IntKind.i64 w.c.4), .tr true (T.int IntKind.i64 w.c.5), .tr true (T.int IntKind.i64 w.c.6), .tr false (eL 1 rowB w.p.1), .tr false (eL 1 rowI w.p.2), .tr false (eL 1 rowI w.p.3), .tr false (eL 13 Nd.cs w.3), .tr false (eL 5 Ws.cs w.4), .tr false (eL 1 rowI w.5)])]⟩), (16, ⟨z0, [(false, [(C.pt (Pt.ptr 17 0 [] 11 0 0))])]⟩), (17, ⟨z0, [(true, [.tr true (T.int IntKind.i64 0), .tr true (T.int IntKind.i64 0), .tr true (T.int IntKind.i64 0), .tr true (T.int IntKind.i64 0), .tr true (.arr (2) (0) (fun x x_1 => T.hole)), .tr true (T.int IntKind.i64 0), .tr true (T.int IntKind.i64 0), .tr true (T.bool false), .tr true (T.int IntKind.i64 0), .tr true (.arr (1) (0) (fun x x_1 => T.hole)), .tr true (.arr (1) (0) (fun x x_1 => T.hole))])]⟩), (20, ⟨z0, [(false, [(C.pt (Pt.ptr 21 0 [] 13 0 0))])]⟩), (21, ⟨z0, [(true, [.tr true (T.int IntKind.i64 (atL Nd.cs w.3 k.toNat 0).toI), .tr true (T.int IntKind.i64 (atL Nd.cs w.3 k.toNat 1).toI), .tr true (T.int IntKind.i64 (atL Nd.cs w.3 k.toNat 2).toI), .tr true (T.int IntKind.i64 (atL Nd.cs w.3 k.toNat 3).toI), .tr true (T.int IntKind.i64 (atL Nd.cs w.3 k.toNat 4).toI), .tr true (T.int IntKind.i64 (atL Nd.cs w.3 k.toNat 5).toI), .tr true (T.int IntKind.i64 (atL Nd.cs w.3 k.toNat 6).toI), .tr true (T.int IntKind.i64 (atL Nd.cs w.3 k.toNat 7).toI), .tr false (.arr (1) ((atL Nd.cs w.3 k.toNat 8).ln) ((atL Nd.cs w.3 k.toNat 8).fn)), .tr true (T.int IntKind.i64 (atL Nd.cs w.3 k.toNat 9).toI), .tr true (T.int IntKind.i64 (atL Nd.cs w.3 k.toNat 10).toI), .tr false (.arr (3) ((atL Nd.cs w.3 k.toNat 11).ln) ((atL Nd.cs w.3 k.toNat 11).fn)), .tr false (.arr (1) ((atL Nd.cs w.3 k.toNat 12).ln) ((atL Nd.cs w.3 k.toNat 12).fn))])]⟩), (24, ⟨z0, [(false, [(C.pt (Pt.ptr 25 0 [] 11 0 0))])]⟩), (25, ⟨z0, [(true, [.tr true (T.int IntKind.i64 r1.1), .tr true (T.int IntKind.i64 r1.2), .tr true (T.int IntKind.i64 r2.1), .tr true (T.int IntKind.i64 r2.2), .tr true (.arr (2) (nx25_4) (fx25_4)), .tr true (T.int IntKind.i64 (atL Nd.cs w.3 k.toNat 2).toI), .tr true (T.int IntKind.i64 (↑(atL Nd.cs w.3 k.toNat 8).ln : Int)), .tr true (T.bool ((atL Nd.cs w.3 k.toNat 9).toI != 0)), .tr true (T.int IntKind.i64 (atL Nd.cs w.3 k.toNat 10).toI), .tr true (.arr (1) (0) (fun x x_1 => T.hole)), .tr true (.arr (1) (r3.length) (atL rowI r3))])]⟩), (76, ⟨z0, [(false, [(C.pt (Pt.ptr 9 0 [] 12 0 9))])]⟩), (80, ⟨z0, [(false, [.tr false (eL 13 Nd.cs w.3)])]⟩), (84, ⟨z0, [(false, [.tr true (T.int IntKind.i64 k)])]⟩), (88, ⟨z0, [(false, [(C.pt (Pt.pim 13 (atL Nd.cs w.3 k.toNat)))])]⟩), (92, ⟨z0, [(true, [.tr true (T.int IntKind.i64 (atL Nd.cs w.3 k.toNat 0).toI), .tr true (T.int IntKind.i64 (atL Nd.cs w.3 k.toNat 1).toI), .tr true (T.int IntKind.i64 (atL Nd.cs w.3 k.toNat 2).toI), .tr true (T.int IntKind.i64 (atL Nd.cs w.3 k.toNat 3).toI), .tr true (T.int IntKind.i64 (atL Nd.cs w.3 k.toNat 4).toI), .tr true (T.int IntKind.i64 (atL Nd.cs w.3 k.toNat 5).toI), .tr true (T.int IntKind.i64 (atL Nd.cs w.3 k.toNat 6).toI), .tr true (T.int IntKind.i64 (atL Nd.cs w.3 k.toNat 7).toI), .tr false (.arr (1) ((atL Nd.cs w.3 k.toNat 8).ln) ((atL Nd.cs w.3 k.toNat 8).fn)), .tr true (T.int IntKind.i64 (atL Nd.cs w.3 k.toNat 9).toI), .tr true (T.int IntKind.i64 (atL Nd.cs w.3 k.toNat 10).toI), .tr false (.arr (3) ((atL Nd.cs w.3 k.toNat 11).ln) ((atL Nd.cs w.3 k.toNat 11).fn)), .tr false (.arr (1) ((atL Nd.cs w.3 k.toNat 12).ln) ((atL Nd.cs w.3 k.toNat 12).fn))])]⟩), (108, ⟨z0, [(true, [.tr true (T.int IntKind.i64 r1.1), .tr true (T.int IntKind.i64 r1.2)])]⟩), (132, ⟨z0, [(true, [.tr true (T.int IntKind.i64 r2.1), .tr true (T.int IntKind.i64 r2.2)])]⟩), (140, ⟨z0, [(false, [.tr true (T.int IntKind.i64 (atL Nd.cs w.3 k.toNat 2).toI)])]⟩), (152, ⟨z0, [(false, [.tr true (T.int IntKind.i64 (↑(atL Nd.cs w.3 k.toNat 8).ln : Int))])]⟩), (164, ⟨z0, [(false, [.tr true (T.bool ((atL Nd.cs w.3 k.toNat 9).toI != 0))])]⟩), (172, ⟨z0, [(false, [.tr true (T.int IntKind.i64 (atL Nd.cs w.3 k.toNat 10).toI)])]⟩), (184, ⟨z0, [(false, [.tr true (T.hole)])]⟩), (188, ⟨z0, [(true, [.tr true (T.int IntKind.i64 r1.1), .tr true (T.int IntKind.i64 r1.2), .tr true (T.int IntKind.i64 r2.1), .tr true (T.int IntKind.i64 r2.2), .tr true (T.hole), .tr true (T.int IntKind.i64 (atL Nd.cs w.3 k.toNat 2).toI), .tr true (T.int IntKind.i64 (↑(atL Nd.cs w.3 k.toNat 8).ln : Int)), .tr true (T.bool ((atL Nd.cs w.3 k.toNat 9).toI != 0)), .tr true (T.int IntKind.i64 (atL Nd.cs w.3 k.toNat 10).toI), .tr true (T.hole), .tr true (T.hole)])]⟩), (208, ⟨z0, [(false, [.tr true (.arr (1) (r4.length) (atL rowI r4))])]⟩), (212, ⟨z0, [(false, [.tr true (T.int IntKind.i64 (↑r4.length : Int))])]⟩), (216, ⟨z0, [(false, [.tr true (T.int IntKind.i64 x216)])]⟩), (220, ⟨z0, []⟩)]
def st_iSeen_2 (w : Wd) (k : Int) (r1 : Hd) (r2 : Hd) (r3 : List Int) (nx25_4 : Nat) (fx25_4 : Nat → Nat → T) (x216 : Int) (nx25_9 : Nat) (fx25_9 : Nat → Nat → T) (x284 : Int) : St := [(8, ⟨z0, [(false, [(C.pt (Pt.ptr 9 0 [] 12 0 0))])]⟩), (9, ⟨z0, [(true, [.tr true (T.int IntKind.i64 w.c.1), .tr true (T.int IntKind.i64 w.c.2), .tr true (T.int IntKind.i64 w.c.3), .tr true (T.int IntKind.i64 w.c.4), .tr true (T.int IntKind.i64 w.c.5), .tr true (T.int IntKind.i64 w.c.6), .tr false (eL 1 rowB w.p.1), .tr false (eL 1 rowI w.p.2), .tr false (eL 1 rowI w.p.3), .tr false (eL 13 Nd.cs w.3), .tr false (eL 5 Ws.cs w.4), .tr false (eL 1 rowI w.5)])]⟩), (16, ⟨z0, [(false, [(C.pt (Pt.ptr 17 0 [] 11 0 0))])]⟩), (17, ⟨z0, [(true, [.tr true (T.int IntKind.i64 0), .tr true (T.int IntKind.i64 0), .tr true (T.int IntKind.i64 0), .tr true (T.int IntKind.i64 0), .tr true (.arr (2) (0) (fun x x_1 => T.hole)), .tr true (T.int IntKind.i64 0), .tr true (T.int IntKind.i64 0), .tr true (T.bool false), .tr true (T.int IntKind.i64 0), .tr true (.arr (1) (0) (fun x x_1 => T.hole)), .tr true (.arr (1) (0) (fun x x_1 => T.hole))])]⟩), (20, ⟨z0, [(false, [(C.pt (Pt.ptr 21 0 [] 13 0 0))])]⟩), (21, ⟨z0, [(true, [.tr true (T.int IntKind.i64 (atL Nd.cs w.3 k.toNat 0).toI), .tr true (T.int IntKind.i64 (atL Nd.cs w.3 k.toNat 1).toI), .tr true (T.int IntKind.i64 (atL Nd.cs w.3 k.toNat 2).toI), .tr true (T.int IntKind.i64 (atL Nd.cs w.3 k.toNat 3).toI), .tr true (T.int IntKind.i64 (atL Nd.cs w.3 k.toNat 4).toI), .tr true (T.int IntKind.i64 (atL Nd.cs w.3 k.toNat 5).toI), .tr true (T.int IntKind.i64 (atL Nd.cs w.3 k.toNat 6).toI), .tr true (T.int IntKind.i64 (atL Nd.cs w.3 k.toNat 7).toI), .tr false (.arr (1) ((atL Nd.cs w.3 k.toNat 8).ln) ((atL Nd.cs w.3 k.toNat 8).fn)), .tr true (T.int IntKind.i64 (atL Nd.cs w.3 k.toNat 9).toI), .tr true (T.int IntKind.i64 (atL Nd.cs w.3 k.toNat 10).toI), .tr false (.arr (3) ((atL Nd.cs w.3 k.toNat 11).ln) ((atL Nd.cs w.3 k.toNat 11).fn)), .tr false (.arr (1) ((atL Nd.cs w.3 k.toNat 12).ln) ((atL Nd.cs w.3 k.toNat 12).fn))])]⟩), (24, ⟨z0, [(false, [(C.pt (Pt.ptr 25 0 [] 11 0 0))])]⟩), (25, ⟨z0, [(true, [.tr true (T.int IntKind.i64 r1.1), .tr true (T.int IntKind.i64 r1.2), .tr true (T.int IntKind.i64 r2.1), .tr true (T.int IntKind.i64 r2.2), .tr true (.arr (2) (nx25_4) (fx25_4)), .tr true (T.int IntKind.i64 (atL Nd.cs w.3 k.toNat 2).toI), .tr true (T.int IntKind.i64 (↑(atL Nd.cs w.3 k.toNat 8).ln : Int)), .tr true (T.bool ((atL Nd.cs w.3 k.toNat 9).toI != 0)), .tr true (T.int IntKind.i64 (atL Nd.cs w.3 k.toNat 10).toI), .tr true (.arr (1) (nx25_9) (fx25_9)), .tr true (.arr (1) (r3.length) (atL rowI r3))])]⟩), (76, ⟨z0, [(false, [(C.pt (Pt.ptr 9 0 [] 12 0 9))])]⟩), (80, ⟨z0, [(false, [.tr false (eL 13 Nd.cs w.3)])]⟩), (84, ⟨z0, [(false, [.tr true (T.int IntKind.i64 k)])]⟩), (88, ⟨z0, [(false, [(C.pt (Pt.pim 13 (atL Nd.cs w.3 k.toNat)))])]⟩), (92, ⟨z0, [(true, [.tr true (T.int IntKind.i64 (atL Nd.cs w.3 k.toNat 0).toI), .tr true (T.int IntKind.i64 (atL Nd.cs w.3 k.toNat 1).toI), .tr true (T.int IntKind.i64 (atL Nd.cs w.3 k.toNat 2).toI), .tr true (T.int IntKind.i64 (atL Nd.cs w.3 k.toNat 3).toI), .tr true (T.int IntKind.i64 (atL Nd.cs w.3 k.toNat 4).toI), .tr true (T.int IntKind.i64 (atL Nd.cs w.3 k.toNat 5).toI), .tr true (T.int IntKind.i64 (atL Nd.cs w.3 k.toNat 6).toI), .tr true (T.int IntKind.i64 (atL Nd.cs w.3 k.toNat 7).toI), .tr false (.arr (1) ((atL Nd.cs w.3 k.toNat 8).ln) ((atL Nd.cs w.3 k.toNat 8).fn)), .tr true (T.int IntKind.i64 (atL Nd.cs w.3 k.toNat 9).toI), .tr true (T.int IntKind.i64 (atL Nd.cs w.3 k.toNat 10).toI), .tr false (.arr (3) ((atL Nd.cs w.3 k.toNat 11).ln) ((atL Nd.cs w.3 k.toNat 11).fn)), .tr false (.arr (1) ((atL Nd.cs w.3 k.toNat 12).ln) ((atL Nd.cs w.3 k.toNat 12).fn))])]⟩), (108, ⟨z0, [(true, [.tr true (T.int IntKind.i64 r1.1), .tr true (T.int IntKind.i64 r1.2)])]⟩), (132, ⟨z0, [(true, [.tr true (T.int IntKind.i64 r2.1), .tr true (T.int IntKind.i64 r2.2)])]⟩), (140, ⟨z0, [(false, [.tr true (T.int IntKind.i64 (atL Nd.cs w.3 k.toNat 2).toI)])]⟩), (152, ⟨z0, [(false, [.tr true (T.int IntKind.i64 (↑(atL Nd.cs w.3 k.toNat 8).ln : Int))])]⟩), (164, ⟨z0, [(false, [.tr true (T.bool ((atL Nd.cs w.3 k.toNat 9).toI != 0))])]⟩), (172, ⟨z0, [(false, [.tr true (T.int IntKind.i64 (atL Nd.cs w.3 k.toNat 10).toI)])]⟩), (184, ⟨z0, [(false, [.tr true (T.hole)])]⟩), (188, ⟨z0, [(true, [.tr true (T.int IntKind.i64 r1.1), .tr true (T.int IntKind.i64 r1.2), .tr true (T.int IntKind.i64 r2.1), .tr true (T.int IntKind.i64 r2.2), .tr true (T.hole), .tr true (T.int IntKind.i64 (atL Nd.cs w.3 k.toNat 2).toI), .tr true (T.int IntKind.i64 (↑(atL Nd.cs w.3 k.toNat 8).ln : Int)), .tr true (T.bool ((atL Nd.cs w.3 k.toNat 9).toI != 0)), .tr true (T.int IntKind.i64 (atL Nd.cs w.3 k.toNat 10).toI), .tr true (T.hole), .tr true (T.hole)])]⟩), (272, ⟨z0, [(false, [(C.pt (Pt.ptr 21 0 [] 13 0 11))])]⟩), (276, ⟨z0, [(false, [.tr false (.arr (3) ((atL Nd.cs w.3 k.toNat 11).ln) ((atL Nd.cs w.3 k.toNat 11).fn))])]⟩), (280, ⟨z0, [(false, [.tr true (T.int IntKind.i64 (↑(atL Nd.cs w.3 k.toNat 11).ln : Int))])]⟩), (284, ⟨z0, [(false, [.tr true (T.int IntKind.i64 x284)])]⟩)]
def ex_iSeen_2_1 (w : Wd) (k : Int) (r1 : Hd) (r2 : Hd) (r3 : List Int) (nx25_4 : Nat) (fx25_4 : Nat → Nat → T) (x216 : Int) (nx25_9 : Nat) (fx25_9 : Nat → Nat → T) (x284 : Int) : St := [(8, ⟨z0, [(false, [(C.pt (Pt.ptr 9 0 [] 12 0 0))])]⟩), (9, ⟨z0, [(true, [.tr true (T.int IntKind.i64 w.c.1), .tr true (T.int IntKind.i64 w.c.2), .tr true (T.int IntKind.i64 w.c.3), .tr true (T.int IntKind.i64 w.c.4), .tr true (T.int IntKind.i64 w.c.5), .tr true (T.int IntKind.i64 w.c.6), .tr false (eL 1 rowB w.p.1), .tr false (eL 1 rowI w.p.2), .tr false (eL 1 rowI w.p.3), .tr false (eL 13 Nd.cs w.3), .tr false (eL 5 Ws.cs w.4), .tr false (eL 1 rowI w.5)])]⟩), (16, ⟨z0, [(false, [(C.pt (Pt.ptr 17 0 [] 11 0 0))])]⟩), (17, ⟨z0, [(true, [.tr true (T.int IntKind.i64 0), .tr true (T.int IntKind.i64 0), .tr true (T.int IntKind.i64 0), .tr true (T.int IntKind.i64 0), .tr true (.arr (2) (0) (fun x x_1 => T.hole)), .tr true (T.int IntKind.i64 0), .tr true (T.int IntKind.i64 0), .tr true (T.bool false), .tr true (T.int IntKind.i64 0), .tr true (.arr (1) (0) (fun x x_1 => T.hole)), .tr true (.arr (1) (0) (fun x x_1 => T.hole))])]⟩), (20, ⟨z0, [(false, [(C.pt (Pt.ptr 21 0 [] 13 0 0))])]⟩), (21, ⟨z0, [(true, [.tr true (T.int IntKind.i64 (atL Nd.cs w.3 k.toNat 0).toI), .tr true (T.int IntKind.i64 (atL Nd.cs w.3 k.toNat 1).toI), .tr true (T.int IntKind.i64 (atL Nd.cs w.3 k.toNat 2).toI), .tr true (T.int IntKind.i64 (atL Nd.cs w.3 k.toNat 3).toI), .tr true (T.int IntKind.i64 (atL Nd.cs w.3 k.toNat 4).toI), .tr true (T.int IntKind.i64 (atL Nd.cs w.3 k.toNat 5).toI), .tr true (T.int IntKind.i64 (atL Nd.cs w.3 k.toNat 6).toI), .tr true (T.int IntKind.i64 (atL Nd.cs w.3 k.toNat 7).toI), .tr false (.arr (1) ((atL Nd.cs w.3 k.toNat 8).ln) ((atL Nd.cs w.3 k.toNat 8).fn)), .tr true (T.int IntKind.i64 (atL Nd.cs w.3 k.toNat 9).toI), .tr true (T.int IntKind.i64 (atL Nd.cs w.3 k.toNat 10).toI), .tr false (.arr (3) ((atL Nd.cs w.3 k.toNat 11).ln) ((atL Nd.cs w.3 k.toNat 11).fn)), .tr false (.arr (1) ((atL Nd.cs w.3 k.toNat 12).ln) ((atL Nd.cs w.3 k.toNat 12).fn))])]⟩), (24, ⟨z0, [(false, [(C.pt (Pt.ptr 25 0 [] 11 0 0))])]⟩), (25, ⟨z0, [(true, [.tr true (T.int IntKind.i64 r1.1), .tr true (T.int IntKind.i64 r1.2), .tr true (T.int IntKind.i64 r2.1), .tr true (T.int IntKind.i64 r2.2), .tr true (.arr (2) (nx25_4) (fx25_4)), .tr true (T.int IntKind.i64 (atL Nd.cs w.3 k.toNat 2).toI), .tr true (T.int IntKind.i64 (↑(atL Nd.cs w.3 k.toNat 8).ln : Int)), .tr true (T.bool ((atL Nd.cs w.3 k.toNat 9).toI != 0)), .tr true (T.int IntKind.i64 (atL Nd.cs w.3 k.toNat 10).toI), .tr true (.arr (1) (nx25_9) (fx25_9)), .tr true (.arr (1) (r3.length) (atL rowI r3))])]⟩), (76, ⟨z0, [(false, [(C.pt (Pt.ptr 9 0 [] 12 0 9))])]⟩), (80, ⟨z0, [(false, [.tr false (eL 13 Nd.cs w.3)])]⟩), (84, ⟨z0, [(false, [.tr true (T.int IntKind.i64 k)])]⟩), (88, ⟨z0, [(false, [(C.pt (Pt.pim 13 (atL Nd.cs w.3 k.toNat)))])]⟩), (92, ⟨z0, [(true, [.tr true (T.int IntKind.i64 (atL Nd.cs w.3 k.toNat 0).toI), .tr true (T.int IntKind.i64 (atL Nd.cs w.3 k.toNat 1).toI), .tr true (T.int IntKind.i64 (atL Nd.cs w.3 k.toNat 2).toI), .tr true (T.int IntKind.i64 (atL Nd.cs w.3 k.toNat 3).toI), .tr true (T.int IntKind.i64 (atL Nd.cs w.3 k.toNat 4).toI), .tr true (T.int IntKind.i64 (atL Nd.cs w.3 k.toNat 5).toI), .tr true (T.int IntKind.i64 (atL Nd.cs w.3 k.toNat 6).toI), .tr true (T.int IntKind.i64 (atL Nd.cs w.3 k.toNat 7).toI), .tr false (.arr (1) ((atL Nd.cs w.3 k.toNat 8).ln) ((atL Nd.cs w.3 k.toNat 8).fn)), .tr true (T.int IntKind.i64 (atL Nd.cs w.3 k.toNat 9).toI), .tr true (T.int IntKind.i64 (atL Nd.cs w.3 k.toNat 10).toI), .tr false (.arr (3) ((atL Nd.cs w.3 k.toNat 11).ln) ((atL Nd.cs w.3 k.toNat 11).fn)), .tr false (.arr (1) ((atL Nd.cs w.3 k.toNat 12).ln) ((atL Nd.cs w.3 k.toNat 12).fn))])]⟩), (108, ⟨z0, [(true, [.tr true (T.int IntKind.i64 r1.1), .tr true (T.int IntKind.i64 r1.2)])]⟩), (132, ⟨z0, [(true, [.tr true (T.int IntKind.i64 r2.1), .tr true (T.int IntKind.i64 r2.2)])]⟩), (140, ⟨z0, [(false, [.tr true (T.int IntKind.i64 (atL Nd.cs w.3 k.toNat 2).toI)])]⟩), (152, ⟨z0, [(false, [.tr true (T.int IntKind.i64 (↑(atL Nd.cs w.3 k.toNat 8).ln : Int))])]⟩), (164, ⟨z0, [(false, [.tr true (T.bool ((atL Nd.cs w.3 k.toNat 9).toI != 0))])]⟩), (172, ⟨z0, [(false, [.tr true (T.int IntKind.i64 (atL Nd.cs w.3 k.toNat 10).toI)])]⟩), (184, ⟨z0, [(false, [.tr true (T.hole)])]⟩), (188, ⟨z0, [(true, [.tr true (T.int IntKind.i64 r1.1), .tr true (T.int IntKind.i64 r1.2), .tr true (T.int IntKind.i64 r2.1), .tr true (T.int IntKind.i64 r2.2), .tr true (T.hole), .tr true (T.int IntKind.i64 (atL Nd.cs w.3 k.toNat 2).toI), .tr true (T.int IntKind.i64 (↑(atL Nd.cs w.3 k.toNat 8).ln : Int)), .tr true (T.bool ((atL Nd.cs w.3 k.toNat 9).toI != 0)), .tr true (T.int IntKind.i64 (atL Nd.cs w.3 k.toNat 10).toI), .tr true (T.hole), .tr true (T.hole)])]⟩), (272, ⟨z0, [(false, [(C.pt (Pt.ptr 21 0 [] 13 0 11))])]⟩), (276, ⟨z0, [(false, [.tr false (.arr (3) ((atL Nd.cs w.3 k.toNat 11).ln) ((atL Nd.cs w.3 k.toNat 11).fn))])]⟩), (280, ⟨z0, [(false, [.tr true (T.int IntKind.i64 (↑(atL Nd.cs w.3 k.toNat 11).ln : Int))])]⟩), (284, ⟨z0, [(false, [.tr true (T.int IntKind.i64 x284)])]⟩), (288, ⟨z0, []⟩)]
theorem round_iSeen_2 (w : Wd) (k : Int) (r1 : Hd) (r2 : Hd) (r3 : List Int) (nx25_4 : Nat) (fx25_4 : Nat → Nat → T) (x216 : Int) (nx25_9 : Nat) (fx25_9 : Nat → Nat → T) (x284 : Int) (n : Nat) (K : Ex → St → Res) : roundAt prog (tabS [(i_isSlot, e_isSlot), (i_iHdAt, e_iHdAt), (i_clI, e_clI), (i_iKid, e_iKid), (i_iRead, e_iRead)]) kp_iSeen F_iSeen [1, 1, 1, 1, 1, 0, 1, 0] n (st_iSeen_2 w k r1 r2 r3 nx25_4 fx25_4 x216 nx25_9 fx25_9 x284) K = (
 bif decide (x284 < (↑(atL Nd.cs w.3 k.toNat 11).ln : Int)) then
  gd (decide (0 ≤ x284) && (x284.toNat.blt (atL Nd.cs w.3 k.toNat 11).ln && true)) <|
  gd (T.isI IntKind.i64 ((atL Nd.cs w.3 k.toNat 11).fn x284.toNat 0) &&
    T.isI IntKind.i64 ((atL Nd.cs w.3 k.toNat 11).fn x284.toNat 1) &&
  T.isI IntKind.i64 ((atL Nd.cs w.3 k.toNat 11).fn x284.toNat 2)) <|
  entK ok_iRead ea_iRead (f_iRead) [(0, false, [C.tr false (eL 1 rowB w.p.1)]),
  (0, true,
    [C.tr false (T.int IntKind.i64 ((atL Nd.cs w.3 k.toNat 11).fn x284.toNat 0).toI),
      C.tr false (T.int IntKind.i64 ((atL Nd.cs w.3 k.toNat 11).fn x284.toNat 1).toI),
      C.tr false (T.int IntKind.i64 ((atL Nd.cs w.3 k.toNat 11).fn x284.toNat 2).toI)]),
  (0, false, [C.tr false (T.int IntKind.i64 0)]),
  (0, false, [C.tr false (T.int IntKind.i64 ((atL Nd.cs w.3 k.toNat 11).fn x284.toNat 1).toI)])] fun (r6 : List UInt8 × Bool) =>
  gd (r6.1.length.ble r6.1.length && true) <|
  gd (r6.1.length.ble r6.1.length && true) <|
  gd (r6.1.length.ble r6.1.length && true) <|
  gd (nx25_9.ble nx25_9 && true) <|
  gd (((nx25_9 + 1) * 24).ble 70368744177664 && (nx25_9 + 1).ble 70368744177664) <|
  gd ((nx25_9 + 1).ble (nx25_9 + 1) && true) <|
  K .normal (st_iSeen_2 w k r1 r2 r3 nx25_4 fx25_4 x216 (nx25_9 + 1) (appF nx25_9 fx25_9 (rowsT [[T.arr 1 r6.1.length (atL rowB r6.1)]])) (IntKind.i64.wrap (x284 + 1)))
 else
 K (.exit 2) (ex_iSeen_2_1 w k r1 r2 r3 nx25_4 fx25_4 x216 nx25_9 fx25_9 x284)) := by kernel_rfl
theorem post_iSeen_2_1 (w : Wd) (k : Int) (r1 : Hd) (r2 : Hd) (r3 : List Int) (nx25_4 : Nat) (fx25_4 : Nat → Nat → T) (x216 : Int) (nx25_9 : Nat) (fx25_9 : Nat → Nat → T) (x284 : Int) (n : Nat) : contAt prog (tabS [(i_isSlot, e_isSlot), (i_iHdAt, e_iHdAt), (i_clI, e_clI), (i_iKid, e_iKid), (i_iRead, e_iRead)]) kp_iSeen F_iSeen ts_iSeen [1, 1, 1, 1, 1, 0, 1, 0] [] n (.exit 2) (ex_iSeen_2_1 w k r1 r2 r3 nx25_4 fx25_4 x216 nx25_9 fx25_9 x284) = (
 gd (nx25_4.ble nx25_4 && true) <|
 gd (nx25_9.ble nx25_9 && true) <|
 gd (r3.length.ble r3.length && true) <|
 gd (nx25_4.ble nx25_4 && true) <|
 gd (nx25_9.ble nx25_9 && true) <|
 gd (r3.length.ble r3.length && true) <|
 some ([(true, [.tr true (T.int IntKind.i64 r1.1), .tr true (T.int IntKind.i64 r1.2), .tr true (T.int IntKind.i64 r2.1), .tr true (T.int IntKind.i64 r2.2), .tr true (.arr (2) (nx25_4) (fx25_4)), .tr true (T.int IntKind.i64 (atL Nd.cs w.3 k.toNat 2).toI), .tr true (T.int IntKind.i64 (↑(atL Nd.cs w.3 k.toNat 8).ln : Int)), .tr true (T.bool ((atL Nd.cs w.3 k.toNat 9).toI != 0)), .tr true (T.int IntKind.i64 (atL Nd.cs w.3 k.toNat 10).toI), .tr true (.arr (1) (nx25_9) (fx25_9)), .tr true (.arr (1) (r3.length) (atL rowI r3))])], [(false, []), (false, [])])) := by kernel_rfl
theorem round_iSeen_1 (w : Wd) (k : Int) (r1 : Hd) (r2 : Hd) (r3 : List Int) (r4 : List Int) (nx25_4 : Nat) (fx25_4 : Nat → Nat → T) (x216 : Int) (n : Nat) (K : Ex → St → Res) : roundAt prog (tabS [(i_isSlot, e_isSlot), (i_iHdAt, e_iHdAt), (i_clI, e_clI), (i_iKid, e_iKid), (i_iRead, e_iRead)]) kp_iSeen F_iSeen [1, 1, 1, 1, 0, 1, 0] n (st_iSeen_1 w k r1 r2 r3 r4 nx25_4 fx25_4 x216) K = (
 bif decide (x216 < (↑r4.length : Int)) then
  gd (decide (0 ≤ x216) && (x216.toNat.blt r4.length && true)) <|
  gd ((0 + x216.toNat).blt r4.length && true && T.isI IntKind.i64 (atL rowI r4 (0 + x216.toNat) 0)) <|
  entK ok_iHdAt ea_iHdAt (f_iHdAt) [(0, false, [C.tr false (eL 13 Nd.cs w.3)]),
  (0, false, [C.tr false (T.int IntKind.i64 (atL rowI r4 (0 + x216.toNat) 0).toI)])] fun (r5 : Hd) =>
  gd (nx25_4.ble nx25_4 && true) <|
  gd (((nx25_4 + 1) * 16).ble 70368744177664 && (nx25_4 + 1).ble 70368744177664) <|
  gd ((nx25_4 + 1).ble (nx25_4 + 1) && true) <|
  K .normal (st_iSeen_1 w k r1 r2 r3 r4 (nx25_4 + 1) (appF nx25_4 fx25_4 (plainF (cutT 0 1 (rowsT [[T.int IntKind.i64 r5.1, T.int IntKind.i64 r5.2]])))) (IntKind.i64.wrap (x216 + 1)))
 else
 K (.exit 0) (ex_iSeen_1_1 w k r1 r2 r3 r4 nx25_4 fx25_4 x216)) := by kernel_rfl
theorem post_iSeen_1_1 (w : Wd) (k : Int) (r1 : Hd) (r2 : Hd) (r3 : List Int) (r4 : List Int) (nx25_4 : Nat) (fx25_4 : Nat → Nat → T) (x216 : Int) (n : Nat) : contAt prog (tabS [(i_isSlot, e_isSlot), (i_iHdAt, e_iHdAt), (i_clI, e_clI), (i_iKid, e_iKid), (i_iRead, e_iRead)]) kp_iSeen F_iSeen ts_iSeen [1, 1, 1, 1, 0, 1, 0] [] n (.exit 0) (ex_iSeen_1_1 w k r1 r2 r3 r4 nx25_4 fx25_4 x216) = (
 loopAt prog (tabS [(i_isSlot, e_isSlot), (i_iHdAt, e_iHdAt), (i_clI, e_clI), (i_iKid, e_iKid), (i_iRead, e_iRead)]) kp_iSeen F_iSeen [1, 1, 1, 1, 1, 0, 1, 0] n n (st_iSeen_2 w k r1 r2 r3 nx25_4 fx25_4 x216 (0) (fun x x_1 => T.hole) (0)) (contAt prog (tabS [(i_isSlot, e_isSlot), (i_iHdAt, e_iHdAt), (i_clI, e_clI), (i_iKid, e_iKid), (i_iRead, e_iRead)]) kp_iSeen F_iSeen ts_iSeen [1, 1, 1, 1, 1, 0, 1, 0] [] n)) := by kernel_rfl
theorem pre_iSeen (w : Wd) (k : Int) (n : Nat) : body prog (tabS [(i_isSlot, e_isSlot), (i_iHdAt, e_iHdAt), (i_clI, e_clI), (i_iKid, e_iKid), (i_iRead, e_iRead)]) kp_iSeen n F_iSeen [aR w.cs, aI k] = (
 bif decide (0 ≤ k) then
  bif !decide (k ≤ IntKind.i64.wrap ((↑w.3.length : Int) - 1)) then
   some ([(true, [.tr true (T.int IntKind.i64 0), .tr true (T.int IntKind.i64 0), .tr true (T.int IntKind.i64 0), .tr true (T.int IntKind.i64 0), .tr true (.arr (2) (0) (fun x x_1 => T.hole)), .tr true (T.int IntKind.i64 0), .tr true (T.int IntKind.i64 0), .tr true (T.bool false), .tr true (T.int IntKind.i64 0), .tr true (.arr (1) (0) (fun x x_1 => T.hole)), .tr true (.arr (1) (0) (fun x x_1 => T.hole))])], [(false, []), (false, [])])
  else
  gd (decide (0 ≤ k) && (k.toNat.blt w.3.length && true)) <|
  gd (T.isI IntKind.i64 (atL Nd.cs w.3 k.toNat 0) && T.isI IntKind.i64 (atL Nd.cs w.3 k.toNat 1) &&
                      T.isI IntKind.i64 (atL Nd.cs w.3 k.toNat 2) &&
                    T.isI IntKind.i64 (atL Nd.cs w.3 k.toNat 3) &&
                  T.isI IntKind.i64 (atL Nd.cs w.3 k.toNat 4) &&
                T.isI IntKind.i64 (atL Nd.cs w.3 k.toNat 5) &&
              T.isI IntKind.i64 (atL Nd.cs w.3 k.toNat 6) &&
            T.isI IntKind.i64 (atL Nd.cs w.3 k.toNat 7) &&
          ((atL Nd.cs w.3 k.toNat 8).isArr && (atL Nd.cs w.3 k.toNat 8).wd.beq 1) &&
        T.isI IntKind.i64 (atL Nd.cs w.3 k.toNat 9) &&
      T.isI IntKind.i64 (atL Nd.cs w.3 k.toNat 10) &&
    ((atL Nd.cs w.3 k.toNat 11).isArr && (atL Nd.cs w.3 k.toNat 11).wd.beq 3) &&
  ((atL Nd.cs w.3 k.toNat 12).isArr && (atL Nd.cs w.3 k.toNat 12).wd.beq 1)) <|
  entK ok_iHdAt ea_iHdAt (f_iHdAt) [(0, false, [C.tr false (eL 13 Nd.cs w.3)]), (0, false, [C.tr false (T.int IntKind.i64 k)])] fun (r1 : Hd) =>
  entK ok_iHdAt ea_iHdAt (f_iHdAt) [(0, false, [C.tr false (eL 13 Nd.cs w.3)]),
  (0, false, [C.tr false (T.int IntKind.i64 (IntKind.i64.wrap ((atL Nd.cs w.3 k.toNat 3).toI - 1)))])] fun (r2 : Hd) =>
  entK ok_clI ea_clI (f_clI) [(0, false, [C.tr false (T.arr 1 (atL Nd.cs w.3 k.toNat 12).ln (atL Nd.cs w.3 k.toNat 12).fn)])] fun (r3 : List Int) =>
  gd (r3.length.ble r3.length && true) <|
  gd (r3.length.ble r3.length && true) <|
  entK ok_iKid ea_iKid (f_iKid) [(0, false, [C.tr false (eL 13 Nd.cs w.3)]),
  (0, false, [C.tr false (T.int IntKind.i64 (atL Nd.cs w.3 k.toNat 5).toI)])] fun (r4 : List Int) =>
  loopAt prog (tabS [(i_isSlot, e_isSlot), (i_iHdAt, e_iHdAt), (i_clI, e_clI), (i_iKid, e_iKid), (i_iRead, e_iRead)]) kp_iSeen F_iSeen [1, 1, 1, 1, 0, 1, 0] n n (st_iSeen_1 w k r1 r2 r3 r4 (0) (fun x x_1 => T.hole) (0)) (contAt prog (tabS [(i_isSlot, e_isSlot), (i_iHdAt, e_iHdAt), (i_clI, e_clI), (i_iKid, e_iKid), (i_iRead, e_iRead)]) kp_iSeen F_iSeen ts_iSeen [1, 1, 1, 1, 0, 1, 0] [] n)
 else
 some ([(true, [.tr true (T.int IntKind.i64 0), .tr true (T.int IntKind.i64 0), .tr true (T.int IntKind.i64 0), .tr true (T.int IntKind.i64 0), .tr true (.arr (2) (0) (fun x x_1 => T.hole)), .tr true (T.int IntKind.i64 0), .tr true (T.int IntKind.i64 0), .tr true (T.bool false), .tr true (T.int IntKind.i64 0), .tr true (.arr (1) (0) (fun x x_1 => T.hole)), .tr true (.arr (1) (0) (fun x x_1 => T.hole))])], [(false, []), (false, [])])) := by kernel_rfl
def ok_sSeen (x : Wd × Int) : Prop := x.1.l.length ≤ LM ∧ x.1.p.mem.length ≤ LM ∧ inI x.2 ∧ ndI x.1.l
def ea_sSeen (x : Wd × Int) : List Arg := [aR x.1.cs, aI x.2]
def f_sSeen (x : Wd × Int) : Rm := seenR x.1 x.2
noncomputable def e_sSeen : Ent := ent [] ok_sSeen ea_sSeen (fun r => erR 2 r.cs) f_sSeen
theorem ea_sSeen_inj (x y : Wd × Int) (h : ea_sSeen x = ea_sSeen y) : x = y := by
  obtain ⟨w1, k1⟩ := x
  obtain ⟨w2, k2⟩ := y
  simp only [ea_sSeen, List.cons.injEq, and_true, true_and] at h
  obtain ⟨e0, e1⟩ := h
  obtain rfl := Wd.cs_ext (aR_inj e0)
  obtain rfl := aI_inj e1
  rfl
theorem dm_sSeen {w : Wd} {k : Int} (h : ok_sSeen (w, k)) : dom ok_sSeen ea_sSeen [(0, true, [C.tr false (T.int IntKind.i64 w.c.chunks), C.tr false (T.int IntKind.i64 w.c.size), C.tr false (T.int IntKind.i64 w.c.slots), C.tr false (T.int IntKind.i64 w.c.tax), C.tr false (T.int IntKind.i64 w.c.slice), C.tr false (T.int IntKind.i64 w.c.gens), C.tr false (T.arr 1 w.p.mem.length (atL rowB w.p.mem)), C.tr false (T.arr 1 w.p.st.length (atL rowI w.p.st)), C.tr false (T.arr 1 w.p.own.length (atL rowI w.p.own)), C.tr false (T.arr 13 w.l.length (atL Nd.cs w.l)), C.tr false (T.arr 5 w.q.length (atL Ws.cs w.q)), C.tr false (T.arr 1 w.log.length (atL rowI w.log))]), (0, false, [C.tr false (T.int IntKind.i64 k)])] = true := dom_ea (ea := ea_sSeen) (x := (w, k)) h
theorem iv_sSeen {w : Wd} {k : Int} (h : ok_sSeen (w, k)) : inv ok_sSeen ea_sSeen [(0, true, [C.tr false (T.int IntKind.i64 w.c.chunks), C.tr false (T.int IntKind.i64 w.c.size), C.tr false (T.int IntKind.i64 w.c.slots), C.tr false (T.int IntKind.i64 w.c.tax), C.tr false (T.int IntKind.i64 w.c.slice), C.tr false (T.int IntKind.i64 w.c.gens), C.tr false (T.arr 1 w.p.mem.length (atL rowB w.p.mem)), C.tr false (T.arr 1 w.p.st.length (atL rowI w.p.st)), C.tr false (T.arr 1 w.p.own.length (atL rowI w.p.own)), C.tr false (T.arr 13 w.l.length (atL Nd.cs w.l)), C.tr false (T.arr 5 w.q.length (atL Ws.cs w.q)), C.tr false (T.arr 1 w.log.length (atL rowI w.log))]), (0, false, [C.tr false (T.int IntKind.i64 k)])] = (w, k) := inv_ea ea_sSeen_inj (x := (w, k)) h
theorem d_sSeen (w : Wd) (k : Int) : f_sSeen (w, k) = seenR w k := rfl
def i_sSeen : Nat := 21
noncomputable abbrev F_sSeen : Func := f21
def kp_sSeen : List (Nat × List Nat) := [(0, [4, 8, 9, 16, 17, 20, 21, 24, 25, 76, 80, 84, 88, 92, 96, 112, 136, 144, 156, 168, 176, 180, 184, 188, 192, 196, 420]), (1, [4, 8, 9, 16, 17, 20, 21, 24, 25, 72, 76, 80, 84, 88, 92, 96, 112, 136, 144, 156, 168, 176, 180, 184, 188, 192, 196, 420]), (2, [8, 9, 16, 17, 20, 21, 24, 25, 76, 80, 84, 88, 92, 96, 112, 136, 144, 156, 168, 176, 180, 184, 188, 192, 196, 420]), (3, [4, 8, 9, 16, 17, 20, 21, 24, 25, 76, 80, 84, 88, 92, 96, 112, 136, 144, 156, 168, 176, 180, 184, 188, 192, 196, 420]), (4, [8, 9, 16, 17, 20, 21, 24, 25, 76, 80, 84, 88, 92, 96, 112, 136, 144, 156, 168, 176, 180, 184, 188, 192, 196, 420]), (5, [8, 9, 16, 17, 20, 21, 24, 25, 28, 76, 80, 84, 88, 92, 96, 112, 136, 144, 156, 168, 176, 180, 184, 188, 192, 196, 420]), (6, [8, 9, 16, 17, 20, 21, 24, 25, 28, 32, 76, 80, 84, 88, 92, 96, 112, 136, 144, 156, 168, 176, 180, 184, 188, 192, 196, 420]), (7, [8, 9, 16, 17, 20, 21, 24, 25, 28, 32, 76, 80, 84, 88, 92, 96, 112, 136, 144, 156, 168, 176, 180, 184, 188, 192, 196, 232, 420]), (8, [8, 9, 16, 17, 20, 21, 24, 25, 28, 32, 76, 80, 84, 88, 92, 96, 112, 136, 144, 156, 168, 176, 180, 184, 188, 192, 196, 420]), (9, [8, 9, 16, 17, 20, 21, 24, 25, 28, 32, 76, 80, 84, 88, 92, 96, 112, 136, 144, 156, 168, 176, 180, 184, 188, 192, 196, 420]), (10, [8, 9, 16, 17, 20, 21, 24, 25, 36, 76, 80, 84, 88, 92, 96, 112, 136, 144, 156, 168, 176, 180, 184, 188, 192, 196, 420]), (11, [8, 9, 16, 17, 20, 21, 24, 25, 36, 76, 80, 84, 88, 92, 96, 112, 136, 144, 156, 168, 176, 180, 184, 188, 192, 196, 308, 420]), (12, [8, 9, 16, 17, 20, 21, 24, 25, 36, 76, 80, 84, 88, 92, 96, 112, 136, 144, 156, 168, 176, 180, 184, 188, 192, 196, 420]), (13, [8, 9, 16, 17, 20, 21, 24, 25, 36, 40, 76, 80, 84, 88, 92, 96, 112, 136, 144, 156, 168, 176, 180, 184, 188, 192, 196, 420]), (14, [8, 9, 16, 17, 20, 21, 24, 25, 36, 76, 80, 84, 88, 92, 96, 112, 136, 144, 156, 168, 176, 180, 184, 188, 192, 196, 420]), (15, [8, 9, 16, 17, 20, 21, 24, 25, 76, 80, 84, 88, 92, 96, 112, 136, 144, 156, 168, 176, 180, 184, 188, 192, 196, 420])]
def ts_sSeen : List Nat := [0, 0]
def st_sSeen_1 (w : Wd) (k : Int) (r1 : Hd) (r2 : Hd) (r3 : List Int) (nx25_4 : Nat) (fx25_4 : Nat → Nat → T) (x32 : Int) : St := [(8, ⟨z0, [(false, [(C.pt (Pt.ptr 9 0 [] 12 0 0))])]⟩), (9, ⟨z0, [(true, [.tr true (T.int IntKind.i64 w.c.1), .tr true (T.int IntKind.i64 w.c.2), .tr true (T.int IntKind.i64 w.c.3), .tr true (T.int IntKind.i64 w.c.4), .tr true (T.int IntKind.i64 w.c.5), .tr true (T.int IntKind.i64 w.c.6), .tr false (eL 1 rowB w.p.1), .tr false (eL 1 rowI w.p.2), .tr false (eL 1 rowI w.p.3), .tr false (eL 13 Nd.cs w.3), .tr false (eL 5 Ws.cs w.4), .tr false (eL 1 rowI w.5)])]⟩), (16, ⟨z0, [(false, [(C.pt (Pt.ptr 17 0 [] 11 0 0))])]⟩), (17, ⟨z0, [(true, [.tr true (T.int IntKind.i64 0), .tr true (T.int IntKind.i64 0), .tr true (T.int IntKind.i64 0), .tr true (T.int IntKind.i64 0), .tr true (.arr (2) (0) (fun x x_1 => T.hole)), .tr true (T.int IntKind.i64 0), .tr true (T.int IntKind.i64 0), .tr true (T.bool false), .tr true (T.int IntKind.i64 0), .tr true (.arr (1) (0) (fun x x_1 => T.hole)), .tr true (.arr (1) (0) (fun x x_1 => T.hole))])]⟩), (20, ⟨z0, [(false, [(C.pt (Pt.ptr 21 0 [] 13 0 0))])]⟩), (21, ⟨z0, [(true, [.tr true (T.int IntKind.i64 (atL Nd.cs w.3 k.toNat 0).toI), .tr true (T.int IntKind.i64 (atL Nd.cs w.3 k.toNat 1).toI), .tr true (T.int IntKind.i64 (atL Nd.cs w.3 k.toNat 2).toI), .tr true (T.int IntKind.i64 (atL Nd.cs w.3 k.toNat 3).toI), .tr true (T.int IntKind.i64 (atL Nd.cs w.3 k.toNat 4).toI), .tr true (T.int IntKind.i64 (atL Nd.cs w.3 k.toNat 5).toI), .tr true (T.int IntKind.i64 (atL Nd.cs w.3 k.toNat 6).toI), .tr true (T.int IntKind.i64 (atL Nd.cs w.3 k.toNat 7).toI), .tr false (.arr (1) ((atL Nd.cs w.3 k.toNat 8).ln) ((atL Nd.cs w.3 k.toNat 8).fn)), .tr true (T.int IntKind.i64 (atL Nd.cs w.3 k.toNat 9).toI), .tr true (T.int IntKind.i64 (atL Nd.cs w.3 k.toNat 10).toI), .tr false (.arr (3) ((atL Nd.cs w.3 k.toNat 11).ln) ((atL Nd.cs w.3 k.toNat 11).fn)), .tr false (.arr (1) ((atL Nd.cs w.3 k.toNat 12).ln) ((atL Nd.cs w.3 k.toNat 12).fn))])]⟩), (24, ⟨z0, [(false, [(C.pt (Pt.ptr 25 0 [] 11 0 0))])]⟩), (25, ⟨z0, [(true, [.tr true (T.int IntKind.i64 r1.1), .tr true (T.int IntKind.i64 r1.2), .tr true (T.int IntKind.i64 r2.1), .tr true (T.int IntKind.i64 r2.2), .tr true (.arr (2) (nx25_4) (fx25_4)), .tr true (T.int IntKind.i64 (atL Nd.cs w.3 k.toNat 2).toI), .tr true (T.int IntKind.i64 (↑(atL Nd.cs w.3 k.toNat 8).ln : Int)), .tr true (T.bool ((atL Nd.cs w.3 k.toNat 9).toI != 0)), .tr true (T.int IntKind.i64 (atL Nd.cs w.3 k.toNat 10).toI), .tr true (.arr (1) (0) (fun x x_1 => T.hole)), .tr true (.arr (1) (0 + (atL Nd.cs w.3 k.toNat 12).ln) (appF 0 (rowsT []) (plainF (atL Nd.cs w.3 k.toNat 12).fn)))])]⟩), (28, ⟨z0, [(false, [.tr true (.arr (1) (r3.length) (atL rowI r3))])]⟩), (32, ⟨z0, [(false, [.tr true (T.int IntKind.i64 x32)])]⟩), (80, ⟨z0, [(false, [(C.pt (Pt.ptr 9 0 [] 12 0 9))])]⟩), (84, ⟨z0, [(false, [.tr false (eL 13 Nd.cs w.3)])]⟩), (88, ⟨z0, [(false, [.tr true (T.int IntKind.i64 k)])]⟩), (92, ⟨z0, [(false, [(C.pt (Pt.pim 13 (atL Nd.cs w.3 k.toNat)))])]⟩), (96, ⟨z0, [(true, [.tr true (T.int IntKind.i64 (atL Nd.cs w.3 k.toNat 0).toI), .tr true (T.int IntKind.i64 (atL Nd.cs w.3 k.toNat 1).toI), .tr true (T.int IntKind.i64 (atL Nd.cs w.3 k.toNat 2).toI), .tr true (T.int IntKind.i64 (atL Nd.cs w.3 k.toNat 3).toI), .tr true (T.int IntKind.i64 (atL Nd.cs w.3 k.toNat 4).toI), .tr true (T.int IntKind.i64 (atL Nd.cs w.3 k.toNat 5).toI), .tr true (T.int IntKind.i64 (atL Nd.cs w.3 k.toNat 6).toI), .tr true (T.int IntKind.i64 (atL Nd.cs w.3 k.toNat 7).toI), .tr false (.arr (1) ((atL Nd.cs w.3 k.toNat 8).ln) ((atL Nd.cs w.3 k.toNat 8).fn)), .tr true (T.int IntKind.i64 (atL Nd.cs w.3 k.toNat 9).toI), .tr true (T.int IntKind.i64 (atL Nd.cs w.3 k.toNat 10).toI), .tr false (.arr (3) ((atL Nd.cs w.3 k.toNat 11).ln) ((atL Nd.cs w.3 k.toNat 11).fn)), .tr false (.arr (1) ((atL Nd.cs w.3 k.toNat 12).ln) ((atL Nd.cs w.3 k.toNat 12).fn))])]⟩), (112, ⟨z0, [(true, [.tr true (T.int IntKind.i64 r1.1), .tr true (T.int IntKind.i64 r1.2)])]⟩), (136, ⟨z0, [(true, [.tr true (T.int IntKind.i64 r2.1), .tr true (T.int IntKind.i64 r2.2)])]⟩), (144, ⟨z0, [(false, [.tr true (T.int IntKind.i64 (atL Nd.cs w.3 k.toNat 2).toI)])]⟩), (156, ⟨z0, [(false, [.tr true (T.int IntKind.i64 (↑(atL Nd.cs w.3 k.toNat 8).ln : Int))])]⟩), (168, ⟨z0, [(false, [.tr true (T.bool ((atL Nd.cs w.3 k.toNat 9).toI != 0))])]⟩), (176, ⟨z0, [(false, [.tr true (T.int IntKind.i64 (atL Nd.cs w.3 k.toNat 10).toI)])]⟩), (180, ⟨z0, [(false, [.tr true (T.hole)])]⟩), (184, ⟨z0, [(false, [(C.pt (Pt.ptr 21 0 [] 13 0 12))])]⟩), (188, ⟨z0, [(false, [.tr false (.arr (1) ((atL Nd.cs w.3 k.toNat 12).ln) ((atL Nd.cs w.3 k.toNat 12).fn))])]⟩), (192, ⟨z0, [(false, [.tr true (T.hole)])]⟩), (196, ⟨z0, [(true, [.tr true (T.int IntKind.i64 r1.1), .tr true (T.int IntKind.i64 r1.2), .tr true (T.int IntKind.i64 r2.1), .tr true (T.int IntKind.i64 r2.2), .tr true (T.hole), .tr true (T.int IntKind.i64 (atL Nd.cs w.3 k.toNat 2).toI), .tr true (T.int IntKind.i64 (↑(atL Nd.cs w.3 k.toNat 8).ln : Int)), .tr true (T.bool ((atL Nd.cs w.3 k.toNat 9).toI != 0)), .tr true (T.int IntKind.i64 (atL Nd.cs w.3 k.toNat 10).toI), .tr true (T.hole), .tr true (T.hole)])]⟩)]
def ex_sSeen_1_1 (w : Wd) (k : Int) (r1 : Hd) (r2 : Hd) (r3 : List Int) (nx25_4 : Nat) (fx25_4 : Nat → Nat → T) (x32 : Int) : St := [(8, ⟨z0, [(false, [(C.pt (Pt.ptr 9 0 [] 12 0 0))])]⟩), (9, ⟨z0, [(true, [.tr true (T.int IntKind.i64 w.c.1), .tr true (T.int IntKind.i64 w.c.2), .tr true (T.int IntKind.i64 w.c.3), .tr true (T.int IntKind.i64 w.c.4), .tr true (T.int IntKind.i64 w.c.5), .tr true (T.int IntKind.i64 w.c.6), .tr false (eL 1 rowB w.p.1), .tr false (eL 1 rowI w.p.2), .tr false (eL 1 rowI w.p.3), .tr false (eL 13 Nd.cs w.3), .tr false (eL 5 Ws.cs w.4), .tr false (eL 1 rowI w.5)])]⟩), (16, ⟨z0, [(false, [(C.pt (Pt.ptr 17 0 [] 11 0 0))])]⟩), (17, ⟨z0, [(true, [.tr true (T.int IntKind.i64 0), .tr true (T.int IntKind.i64 0), .tr true (T.int IntKind.i64 0), .tr true (T.int IntKind.i64 0), .tr true (.arr (2) (0) (fun x x_1 => T.hole)), .tr true (T.int IntKind.i64 0), .tr true (T.int IntKind.i64 0), .tr true (T.bool false), .tr true (T.int IntKind.i64 0), .tr true (.arr (1) (0) (fun x x_1 => T.hole)), .tr true (.arr (1) (0) (fun x x_1 => T.hole))])]⟩), (20, ⟨z0, [(false, [(C.pt (Pt.ptr 21 0 [] 13 0 0))])]⟩), (21, ⟨z0, [(true, [.tr true (T.int IntKind.i64 (atL Nd.cs w.3 k.toNat 0).toI), .tr true (T.int IntKind.i64 (atL Nd.cs w.3 k.toNat 1).toI), .tr true (T.int IntKind.i64 (atL Nd.cs w.3 k.toNat 2).toI), .tr true (T.int IntKind.i64 (atL Nd.cs w.3 k.toNat 3).toI), .tr true (T.int IntKind.i64 (atL Nd.cs w.3 k.toNat 4).toI), .tr true (T.int IntKind.i64 (atL Nd.cs w.3 k.toNat 5).toI), .tr true (T.int IntKind.i64 (atL Nd.cs w.3 k.toNat 6).toI), .tr true (T.int IntKind.i64 (atL Nd.cs w.3 k.toNat 7).toI), .tr false (.arr (1) ((atL Nd.cs w.3 k.toNat 8).ln) ((atL Nd.cs w.3 k.toNat 8).fn)), .tr true (T.int IntKind.i64 (atL Nd.cs w.3 k.toNat 9).toI), .tr true (T.int IntKind.i64 (atL Nd.cs w.3 k.toNat 10).toI), .tr false (.arr (3) ((atL Nd.cs w.3 k.toNat 11).ln) ((atL Nd.cs w.3 k.toNat 11).fn)), .tr false (.arr (1) ((atL Nd.cs w.3 k.toNat 12).ln) ((atL Nd.cs w.3 k.toNat 12).fn))])]⟩), (24, ⟨z0, [(false, [(C.pt (Pt.ptr 25 0 [] 11 0 0))])]⟩), (25, ⟨z0, [(true, [.tr true (T.int IntKind.i64 r1.1), .tr true (T.int IntKind.i64 r1.2), .tr true (T.int IntKind.i64 r2.1), .tr true (T.int IntKind.i64 r2.2), .tr true (.arr (2) (nx25_4) (fx25_4)), .tr true (T.int IntKind.i64 (atL Nd.cs w.3 k.toNat 2).toI), .tr true (T.int IntKind.i64 (↑(atL Nd.cs w.3 k.toNat 8).ln : Int)), .tr true (T.bool ((atL Nd.cs w.3 k.toNat 9).toI != 0)), .tr true (T.int IntKind.i64 (atL Nd.cs w.3 k.toNat 10).toI), .tr true (.arr (1) (0) (fun x x_1 => T.hole)), .tr true (.arr (1) (0 + (atL Nd.cs w.3 k.toNat 12).ln) (appF 0 (rowsT []) (plainF (atL Nd.cs w.3 k.toNat 12).fn)))])]⟩), (28, ⟨z0, [(false, [.tr true (.arr (1) (r3.length) (atL rowI r3))])]⟩), (32, ⟨z0, [(false, [.tr true (T.int IntKind.i64 x32)])]⟩), (80, ⟨z0, [(false, [(C.pt (Pt.ptr 9 0 [] 12 0 9))])]⟩), (84, ⟨z0, [(false, [.tr false (eL 13 Nd.cs w.3)])]⟩), (88, ⟨z0, [(false, [.tr true (T.int IntKind.i64 k)])]⟩), (92, ⟨z0, [(false, [(C.pt (Pt.pim 13 (atL Nd.cs w.3 k.toNat)))])]⟩), (96, ⟨z0, [(true, [.tr true (T.int IntKind.i64 (atL Nd.cs w.3 k.toNat 0).toI), .tr true (T.int IntKind.i64 (atL Nd.cs w.3 k.toNat 1).toI), .tr true (T.int IntKind.i64 (atL Nd.cs w.3 k.toNat 2).toI), .tr true (T.int IntKind.i64 (atL Nd.cs w.3 k.toNat 3).toI), .tr true (T.int IntKind.i64 (atL Nd.cs w.3 k.toNat 4).toI), .tr true (T.int IntKind.i64 (atL Nd.cs w.3 k.toNat 5).toI), .tr true (T.int IntKind.i64 (atL Nd.cs w.3 k.toNat 6).toI), .tr true (T.int IntKind.i64 (atL Nd.cs w.3 k.toNat 7).toI), .tr false (.arr (1) ((atL Nd.cs w.3 k.toNat 8).ln) ((atL Nd.cs w.3 k.toNat 8).fn)), .tr true (T.int IntKind.i64 (atL Nd.cs w.3 k.toNat 9).toI), .tr true (T.int IntKind.i64 (atL Nd.cs w.3 k.toNat 10).toI), .tr false (.arr (3) ((atL Nd.cs w.3 k.toNat 11).ln) ((atL Nd.cs w.3 k.toNat 11).fn)), .tr false (.arr (1) ((atL Nd.cs w.3 k.toNat 12).ln) ((atL Nd.cs w.3 k.toNat 12).fn))])]⟩), (112, ⟨z0, [(true, [.tr true (T.int IntKind.i64 r1.1), .tr true (T.int IntKind.i64 r1.2)])]⟩), (136, ⟨z0, [(true, [.tr true (T.int IntKind.i64 r2.1), .tr true (T.int IntKind.i64 r2.2)])]⟩), (144, ⟨z0, [(false, [.tr true (T.int IntKind.i64 (atL Nd.cs w.3 k.toNat 2).toI)])]⟩), (156, ⟨z0, [(false, [.tr true (T.int IntKind.i64 (↑(atL Nd.cs w.3 k.toNat 8).ln : Int))])]⟩), (168, ⟨z0, [(false, [.tr true (T.bool ((atL Nd.cs w.3 k.toNat 9).toI != 0))])]⟩), (176, ⟨z0, [(false, [.tr true (T.int IntKind.i64 (atL Nd.cs w.3 k.toNat 10).toI)])]⟩), (180, ⟨z0, [(false, [.tr true (T.hole)])]⟩), (184, ⟨z0, [(false, [(C.pt (Pt.ptr 21 0 [] 13 0 12))])]⟩), (188, ⟨z0, [(false, [.tr false (.arr (1) ((atL Nd.cs w.3 k.toNat 12).ln) ((atL Nd.cs w.3 k.toNat 12).fn))])]⟩), (192, ⟨z0, [(false, [.tr true (T.hole)])]⟩), (196, ⟨z0, [(true, [.tr true (T.int IntKind.i64 r1.1), .tr true (T.int IntKind.i64 r1.2), .tr true (T.int IntKind.i64 r2.1), .tr true (T.int IntKind.i64 r2.2), .tr true (T.hole), .tr true (T.int IntKind.i64 (atL Nd.cs w.3 k.toNat 2).toI), .tr true (T.int IntKind.i64 (↑(atL Nd.cs w.3 k.toNat 8).ln : Int)), .tr true (T.bool ((atL Nd.cs w.3 k.toNat 9).toI != 0)), .tr true (T.int IntKind.i64 (atL Nd.cs w.3 k.toNat 10).toI), .tr true (T.hole), .tr true (T.hole)])]⟩), (232, ⟨z0, []⟩)]
def st_sSeen_2 (w : Wd) (k : Int) (r1 : Hd) (r2 : Hd) (nx25_4 : Nat) (fx25_4 : Nat → Nat → T) (x32 : Int) (nx25_9 : Nat) (fx25_9 : Nat → Nat → T) (x36 : Int) : St := [(8, ⟨z0, [(false, [(C.pt (Pt.ptr 9 0 [] 12 0 0))])]⟩), (9, ⟨z0, [(true, [.tr true (T.int IntKind.i64 w.c.1), .tr true (T.int IntKind.i64 w.c.2), .tr true (T.int IntKind.i64 w.c.3), .tr true (T.int IntKind.i64 w.c.4), .tr true (T.int IntKind.i64 w.c.5), .tr true (T.int IntKind.i64 w.c.6), .tr false (eL 1 rowB w.p.1), .tr false (eL 1 rowI w.p.2), .tr false (eL 1 rowI w.p.3), .tr false (eL 13 Nd.cs w.3), .tr false (eL 5 Ws.cs w.4), .tr false (eL 1 rowI w.5)])]⟩), (16, ⟨z0, [(false, [(C.pt (Pt.ptr 17 0 [] 11 0 0))])]⟩), (17, ⟨z0, [(true, [.tr true (T.int IntKind.i64 0), .tr true (T.int IntKind.i64 0), .tr true (T.int IntKind.i64 0), .tr true (T.int IntKind.i64 0), .tr true (.arr (2) (0) (fun x x_1 => T.hole)), .tr true (T.int IntKind.i64 0), .tr true (T.int IntKind.i64 0), .tr true (T.bool false), .tr true (T.int IntKind.i64 0), .tr true (.arr (1) (0) (fun x x_1 => T.hole)), .tr true (.arr (1) (0) (fun x x_1 => T.hole))])]⟩), (20, ⟨z0, [(false, [(C.pt (Pt.ptr 21 0 [] 13 0 0))])]⟩), (21, ⟨z0, [(true, [.tr true (T.int IntKind.i64 (atL Nd.cs w.3 k.toNat 0).toI), .tr true (T.int IntKind.i64 (atL Nd.cs w.3 k.toNat 1).toI), .tr true (T.int IntKind.i64 (atL Nd.cs w.3 k.toNat 2).toI), .tr true (T.int IntKind.i64 (atL Nd.cs w.3 k.toNat 3).toI), .tr true (T.int IntKind.i64 (atL Nd.cs w.3 k.toNat 4).toI), .tr true (T.int IntKind.i64 (atL Nd.cs w.3 k.toNat 5).toI), .tr true (T.int IntKind.i64 (atL Nd.cs w.3 k.toNat 6).toI), .tr true (T.int IntKind.i64 (atL Nd.cs w.3 k.toNat 7).toI), .tr false (.arr (1) ((atL Nd.cs w.3 k.toNat 8).ln) ((atL Nd.cs w.3 k.toNat 8).fn)), .tr true (T.int IntKind.i64 (atL Nd.cs w.3 k.toNat 9).toI), .tr true (T.int IntKind.i64 (atL Nd.cs w.3 k.toNat 10).toI), .tr false (.arr (3) ((atL Nd.cs w.3 k.toNat 11).ln) ((atL Nd.cs w.3 k.toNat 11).fn)), .tr false (.arr (1) ((atL Nd.cs w.3 k.toNat 12).ln) ((atL Nd.cs w.3 k.toNat 12).fn))])]⟩), (24, ⟨z0, [(false, [(C.pt (Pt.ptr 25 0 [] 11 0 0))])]⟩), (25, ⟨z0, [(true, [.tr true (T.int IntKind.i64 r1.1), .tr true (T.int IntKind.i64 r1.2), .tr true (T.int IntKind.i64 r2.1), .tr true (T.int IntKind.i64 r2.2), .tr true (.arr (2) (nx25_4) (fx25_4)), .tr true (T.int IntKind.i64 (atL Nd.cs w.3 k.toNat 2).toI), .tr true (T.int IntKind.i64 (↑(atL Nd.cs w.3 k.toNat 8).ln : Int)), .tr true (T.bool ((atL Nd.cs w.3 k.toNat 9).toI != 0)), .tr true (T.int IntKind.i64 (atL Nd.cs w.3 k.toNat 10).toI), .tr true (.arr (1) (nx25_9) (fx25_9)), .tr true (.arr (1) (0 + (atL Nd.cs w.3 k.toNat 12).ln) (appF 0 (rowsT []) (plainF (atL Nd.cs w.3 k.toNat 12).fn)))])]⟩), (36, ⟨z0, [(false, [.tr true (T.int IntKind.i64 x36)])]⟩), (80, ⟨z0, [(false, [(C.pt (Pt.ptr 9 0 [] 12 0 9))])]⟩), (84, ⟨z0, [(false, [.tr false (eL 13 Nd.cs w.3)])]⟩), (88, ⟨z0, [(false, [.tr true (T.int IntKind.i64 k)])]⟩), (92, ⟨z0, [(false, [(C.pt (Pt.pim 13 (atL Nd.cs w.3 k.toNat)))])]⟩), (96, ⟨z0, [(true, [.tr true (T.int IntKind.i64 (atL Nd.cs w.3 k.toNat 0).toI), .tr true (T.int IntKind.i64 (atL Nd.cs w.3 k.toNat 1).toI), .tr true (T.int IntKind.i64 (atL Nd.cs w.3 k.toNat 2).toI), .tr true (T.int IntKind.i64 (atL Nd.cs w.3 k.toNat 3).toI), .tr true (T.int IntKind.i64 (atL Nd.cs w.3 k.toNat 4).toI), .tr true (T.int IntKind.i64 (atL Nd.cs w.3 k.toNat 5).toI), .tr true (T.int IntKind.i64 (atL Nd.cs w.3 k.toNat 6).toI), .tr true (T.int IntKind.i64 (atL Nd.cs w.3 k.toNat 7).toI), .tr false (.arr (1) ((atL Nd.cs w.3 k.toNat 8).ln) ((atL Nd.cs w.3 k.toNat 8).fn)), .tr true (T.int IntKind.i64 (atL Nd.cs w.3 k.toNat 9).toI), .tr true (T.int IntKind.i64 (atL Nd.cs w.3 k.toNat 10).toI), .tr false (.arr (3) ((atL Nd.cs w.3 k.toNat 11).ln) ((atL Nd.cs w.3 k.toNat 11).fn)), .tr false (.arr (1) ((atL Nd.cs w.3 k.toNat 12).ln) ((atL Nd.cs w.3 k.toNat 12).fn))])]⟩), (112, ⟨z0, [(true, [.tr true (T.int IntKind.i64 r1.1), .tr true (T.int IntKind.i64 r1.2)])]⟩), (136, ⟨z0, [(true, [.tr true (T.int IntKind.i64 r2.1), .tr true (T.int IntKind.i64 r2.2)])]⟩), (144, ⟨z0, [(false, [.tr true (T.int IntKind.i64 (atL Nd.cs w.3 k.toNat 2).toI)])]⟩), (156, ⟨z0, [(false, [.tr true (T.int IntKind.i64 (↑(atL Nd.cs w.3 k.toNat 8).ln : Int))])]⟩), (168, ⟨z0, [(false, [.tr true (T.bool ((atL Nd.cs w.3 k.toNat 9).toI != 0))])]⟩), (176, ⟨z0, [(false, [.tr true (T.int IntKind.i64 (atL Nd.cs w.3 k.toNat 10).toI)])]⟩), (180, ⟨z0, [(false, [.tr true (T.hole)])]⟩), (184, ⟨z0, [(false, [(C.pt (Pt.ptr 21 0 [] 13 0 12))])]⟩), (188, ⟨z0, [(false, [.tr false (.arr (1) ((atL Nd.cs w.3 k.toNat 12).ln) ((atL Nd.cs w.3 k.toNat 12).fn))])]⟩), (192, ⟨z0, [(false, [.tr true (T.hole)])]⟩), (196, ⟨z0, [(true, [.tr true (T.int IntKind.i64 r1.1), .tr true (T.int IntKind.i64 r1.2), .tr true (T.int IntKind.i64 r2.1), .tr true (T.int IntKind.i64 r2.2), .tr true (T.hole), .tr true (T.int IntKind.i64 (atL Nd.cs w.3 k.toNat 2).toI), .tr true (T.int IntKind.i64 (↑(atL Nd.cs w.3 k.toNat 8).ln : Int)), .tr true (T.bool ((atL Nd.cs w.3 k.toNat 9).toI != 0)), .tr true (T.int IntKind.i64 (atL Nd.cs w.3 k.toNat 10).toI), .tr true (T.hole), .tr true (T.hole)])]⟩)]
def ex_sSeen_2_1 (w : Wd) (k : Int) (r1 : Hd) (r2 : Hd) (nx25_4 : Nat) (fx25_4 : Nat → Nat → T) (x32 : Int) (nx25_9 : Nat) (fx25_9 : Nat → Nat → T) (x36 : Int) : St := [(8, ⟨z0, [(false, [(C.pt (Pt.ptr 9 0 [] 12 0 0))])]⟩), (9, ⟨z0, [(true, [.tr true (T.int IntKind.i64 w.c.1), .tr true (T.int IntKind.i64 w.c.2), .tr true (T.int IntKind.i64 w.c.3), .tr true (T.int IntKind.i64 w.c.4), .tr true (T.int IntKind.i64 w.c.5), .tr true (T.int IntKind.i64 w.c.6), .tr false (eL 1 rowB w.p.1), .tr false (eL 1 rowI w.p.2), .tr false (eL 1 rowI w.p.3), .tr false (eL 13 Nd.cs w.3), .tr false (eL 5 Ws.cs w.4), .tr false (eL 1 rowI w.5)])]⟩), (16, ⟨z0, [(false, [(C.pt (Pt.ptr 17 0 [] 11 0 0))])]⟩), (17, ⟨z0, [(true, [.tr true (T.int IntKind.i64 0), .tr true (T.int IntKind.i64 0), .tr true (T.int IntKind.i64 0), .tr true (T.int IntKind.i64 0), .tr true (.arr (2) (0) (fun x x_1 => T.hole)), .tr true (T.int IntKind.i64 0), .tr true (T.int IntKind.i64 0), .tr true (T.bool false), .tr true (T.int IntKind.i64 0), .tr true (.arr (1) (0) (fun x x_1 => T.hole)), .tr true (.arr (1) (0) (fun x x_1 => T.hole))])]⟩), (20, ⟨z0, [(false, [(C.pt (Pt.ptr 21 0 [] 13 0 0))])]⟩), (21, ⟨z0, [(true, [.tr true (T.int IntKind.i64 (atL Nd.cs w.3 k.toNat 0).toI), .tr true (T.int IntKind.i64 (atL Nd.cs w.3 k.toNat 1).toI), .tr true (T.int IntKind.i64 (atL Nd.cs w.3 k.toNat 2).toI), .tr true (T.int IntKind.i64 (atL Nd.cs w.3 k.toNat 3).toI), .tr true (T.int IntKind.i64 (atL Nd.cs w.3 k.toNat 4).toI), .tr true (T.int IntKind.i64 (atL Nd.cs w.3 k.toNat 5).toI), .tr true (T.int IntKind.i64 (atL Nd.cs w.3 k.toNat 6).toI), .tr true (T.int IntKind.i64 (atL Nd.cs w.3 k.toNat 7).toI), .tr false (.arr (1) ((atL Nd.cs w.3 k.toNat 8).ln) ((atL Nd.cs w.3 k.toNat 8).fn)), .tr true (T.int IntKind.i64 (atL Nd.cs w.3 k.toNat 9).toI), .tr true (T.int IntKind.i64 (atL Nd.cs w.3 k.toNat 10).toI), .tr false (.arr (3) ((atL Nd.cs w.3 k.toNat 11).ln) ((atL Nd.cs w.3 k.toNat 11).fn)), .tr false (.arr (1) ((atL Nd.cs w.3 k.toNat 12).ln) ((atL Nd.cs w.3 k.toNat 12).fn))])]⟩), (24, ⟨z0, [(false, [(C.pt (Pt.ptr 25 0 [] 11 0 0))])]⟩), (25, ⟨z0, [(true, [.tr true (T.int IntKind.i64 r1.1), .tr true (T.int IntKind.i64 r1.2), .tr true (T.int IntKind.i64 r2.1), .tr true (T.int IntKind.i64 r2.2), .tr true (.arr (2) (nx25_4) (fx25_4)), .tr true (T.int IntKind.i64 (atL Nd.cs w.3 k.toNat 2).toI), .tr true (T.int IntKind.i64 (↑(atL Nd.cs w.3 k.toNat 8).ln : Int)), .tr true (T.bool ((atL Nd.cs w.3 k.toNat 9).toI != 0)), .tr true (T.int IntKind.i64 (atL Nd.cs w.3 k.toNat 10).toI), .tr true (.arr (1) (nx25_9) (fx25_9)), .tr true (.arr (1) (0 + (atL Nd.cs w.3 k.toNat 12).ln) (appF 0 (rowsT []) (plainF (atL Nd.cs w.3 k.toNat 12).fn)))])]⟩), (36, ⟨z0, [(false, [.tr true (T.int IntKind.i64 x36)])]⟩), (80, ⟨z0, [(false, [(C.pt (Pt.ptr 9 0 [] 12 0 9))])]⟩), (84, ⟨z0, [(false, [.tr false (eL 13 Nd.cs w.3)])]⟩), (88, ⟨z0, [(false, [.tr true (T.int IntKind.i64 k)])]⟩), (92, ⟨z0, [(false, [(C.pt (Pt.pim 13 (atL Nd.cs w.3 k.toNat)))])]⟩), (96, ⟨z0, [(true, [.tr true (T.int IntKind.i64 (atL Nd.cs w.3 k.toNat 0).toI), .tr true (T.int IntKind.i64 (atL Nd.cs w.3 k.toNat 1).toI), .tr true (T.int IntKind.i64 (atL Nd.cs w.3 k.toNat 2).toI), .tr true (T.int IntKind.i64 (atL Nd.cs w.3 k.toNat 3).toI), .tr true (T.int IntKind.i64 (atL Nd.cs w.3 k.toNat 4).toI), .tr true (T.int IntKind.i64 (atL Nd.cs w.3 k.toNat 5).toI), .tr true (T.int IntKind.i64 (atL Nd.cs w.3 k.toNat 6).toI), .tr true (T.int IntKind.i64 (atL Nd.cs w.3 k.toNat 7).toI), .tr false (.arr (1) ((atL Nd.cs w.3 k.toNat 8).ln) ((atL Nd.cs w.3 k.toNat 8).fn)), .tr true (T.int IntKind.i64 (atL Nd.cs w.3 k.toNat 9).toI), .tr true (T.int IntKind.i64 (atL Nd.cs w.3 k.toNat 10).toI), .tr false (.arr (3) ((atL Nd.cs w.3 k.toNat 11).ln) ((atL Nd.cs w.3 k.toNat 11).fn)), .tr false (.arr (1) ((atL Nd.cs w.3 k.toNat 12).ln) ((atL Nd.cs w.3 k.toNat 12).fn))])]⟩), (112, ⟨z0, [(true, [.tr true (T.int IntKind.i64 r1.1), .tr true (T.int IntKind.i64 r1.2)])]⟩), (136, ⟨z0, [(true, [.tr true (T.int IntKind.i64 r2.1), .tr true (T.int IntKind.i64 r2.2)])]⟩), (144, ⟨z0, [(false, [.tr true (T.int IntKind.i64 (atL Nd.cs w.3 k.toNat 2).toI)])]⟩), (156, ⟨z0, [(false, [.tr true (T.int IntKind.i64 (↑(atL Nd.cs w.3 k.toNat 8).ln : Int))])]⟩), (168, ⟨z0, [(false, [.tr true (T.bool ((atL Nd.cs w.3 k.toNat 9).toI != 0))])]⟩), (176, ⟨z0, [(false, [.tr true (T.int IntKind.i64 (atL Nd.cs w.3 k.toNat 10).toI)])]⟩), (180, ⟨z0, [(false, [.tr true (T.hole)])]⟩), (184, ⟨z0, [(false, [(C.pt (Pt.ptr 21 0 [] 13 0 12))])]⟩), (188, ⟨z0, [(false, [.tr false (.arr (1) ((atL Nd.cs w.3 k.toNat 12).ln) ((atL Nd.cs w.3 k.toNat 12).fn))])]⟩), (192, ⟨z0, [(false, [.tr true (T.hole)])]⟩), (196, ⟨z0, [(true, [.tr true (T.int IntKind.i64 r1.1), .tr true (T.int IntKind.i64 r1.2), .tr true (T.int IntKind.i64 r2.1), .tr true (T.int IntKind.i64 r2.2), .tr true (T.hole), .tr true (T.int IntKind.i64 (atL Nd.cs w.3 k.toNat 2).toI), .tr true (T.int IntKind.i64 (↑(atL Nd.cs w.3 k.toNat 8).ln : Int)), .tr true (T.bool ((atL Nd.cs w.3 k.toNat 9).toI != 0)), .tr true (T.int IntKind.i64 (atL Nd.cs w.3 k.toNat 10).toI), .tr true (T.hole), .tr true (T.hole)])]⟩), (308, ⟨z0, []⟩)]
theorem round_sSeen_2 (w : Wd) (k : Int) (r1 : Hd) (r2 : Hd) (nx25_4 : Nat) (fx25_4 : Nat → Nat → T) (x32 : Int) (nx25_9 : Nat) (fx25_9 : Nat → Nat → T) (x36 : Int) (n : Nat) (K : Ex → St → Res) : roundAt prog (tabS [(i_l1In, e_l1In), (i_sHdAt, e_sHdAt), (i_sKid, e_sKid), (i_sRead, e_sRead)]) kp_sSeen F_sSeen [1, 1, 1, 1, 1, 1, 0, 1, 0] n (st_sSeen_2 w k r1 r2 nx25_4 fx25_4 x32 nx25_9 fx25_9 x36) K = (
 bif decide (x36 < (↑(atL Nd.cs w.3 k.toNat 11).ln : Int)) then
  gd (decide (0 ≤ x36) && (x36.toNat.blt (atL Nd.cs w.3 k.toNat 11).ln && true)) <|
  gd (T.isI IntKind.i64 ((atL Nd.cs w.3 k.toNat 11).fn x36.toNat 0) &&
    T.isI IntKind.i64 ((atL Nd.cs w.3 k.toNat 11).fn x36.toNat 1) &&
  T.isI IntKind.i64 ((atL Nd.cs w.3 k.toNat 11).fn x36.toNat 2)) <|
  gd (decide (0 ≤ x36) && (x36.toNat.blt (atL Nd.cs w.3 k.toNat 11).ln && true)) <|
  gd (T.isI IntKind.i64 ((atL Nd.cs w.3 k.toNat 11).fn x36.toNat 1)) <|
  entK ok_sRead ea_sRead (f_sRead) [(0, false, [C.tr false (eL 1 rowB w.p.1)]),
  (0, true,
    [C.tr false (T.int IntKind.i64 ((atL Nd.cs w.3 k.toNat 11).fn x36.toNat 0).toI),
      C.tr false (T.int IntKind.i64 ((atL Nd.cs w.3 k.toNat 11).fn x36.toNat 1).toI),
      C.tr false (T.int IntKind.i64 ((atL Nd.cs w.3 k.toNat 11).fn x36.toNat 2).toI)]),
  (0, false, [C.tr false (T.int IntKind.i64 0)]),
  (0, false, [C.tr false (T.int IntKind.i64 ((atL Nd.cs w.3 k.toNat 11).fn x36.toNat 1).toI)])] fun (r5 : List UInt8 × Bool) =>
  gd (r5.1.length.ble r5.1.length && true) <|
  gd (r5.1.length.ble r5.1.length && true) <|
  gd (r5.1.length.ble r5.1.length && true) <|
  gd (nx25_9.ble nx25_9 && true) <|
  gd (((nx25_9 + 1) * 24).ble 70368744177664 && (nx25_9 + 1).ble 70368744177664) <|
  gd ((nx25_9 + 1).ble (nx25_9 + 1) && true) <|
  K .normal (st_sSeen_2 w k r1 r2 nx25_4 fx25_4 x32 (nx25_9 + 1) (appF nx25_9 fx25_9 (rowsT [[T.arr 1 r5.1.length (atL rowB r5.1)]])) (IntKind.i64.wrap (x36 + 1)))
 else
 K (.exit 2) (ex_sSeen_2_1 w k r1 r2 nx25_4 fx25_4 x32 nx25_9 fx25_9 x36)) := by kernel_rfl
theorem post_sSeen_2_1 (w : Wd) (k : Int) (r1 : Hd) (r2 : Hd) (nx25_4 : Nat) (fx25_4 : Nat → Nat → T) (x32 : Int) (nx25_9 : Nat) (fx25_9 : Nat → Nat → T) (x36 : Int) (n : Nat) : contAt prog (tabS [(i_l1In, e_l1In), (i_sHdAt, e_sHdAt), (i_sKid, e_sKid), (i_sRead, e_sRead)]) kp_sSeen F_sSeen ts_sSeen [1, 1, 1, 1, 1, 1, 0, 1, 0] [] n (.exit 2) (ex_sSeen_2_1 w k r1 r2 nx25_4 fx25_4 x32 nx25_9 fx25_9 x36) = (
 gd (nx25_4.ble nx25_4 && true) <|
 gd (nx25_9.ble nx25_9 && true) <|
 gd ((0 + (atL Nd.cs w.3 k.toNat 12).ln).ble (0 + (atL Nd.cs w.3 k.toNat 12).ln) && true) <|
 gd (nx25_4.ble nx25_4 && true) <|
 gd (nx25_9.ble nx25_9 && true) <|
 gd ((0 + (atL Nd.cs w.3 k.toNat 12).ln).ble (0 + (atL Nd.cs w.3 k.toNat 12).ln) && true) <|
 some ([(true, [.tr true (T.int IntKind.i64 r1.1), .tr true (T.int IntKind.i64 r1.2), .tr true (T.int IntKind.i64 r2.1), .tr true (T.int IntKind.i64 r2.2), .tr true (.arr (2) (nx25_4) (fx25_4)), .tr true (T.int IntKind.i64 (atL Nd.cs w.3 k.toNat 2).toI), .tr true (T.int IntKind.i64 (↑(atL Nd.cs w.3 k.toNat 8).ln : Int)), .tr true (T.bool ((atL Nd.cs w.3 k.toNat 9).toI != 0)), .tr true (T.int IntKind.i64 (atL Nd.cs w.3 k.toNat 10).toI), .tr true (.arr (1) (nx25_9) (fx25_9)), .tr true (.arr (1) (0 + (atL Nd.cs w.3 k.toNat 12).ln) (appF 0 (rowsT []) (plainF (atL Nd.cs w.3 k.toNat 12).fn)))])], [(false, []), (false, [])])) := by kernel_rfl
theorem round_sSeen_1 (w : Wd) (k : Int) (r1 : Hd) (r2 : Hd) (r3 : List Int) (nx25_4 : Nat) (fx25_4 : Nat → Nat → T) (x32 : Int) (n : Nat) (K : Ex → St → Res) : roundAt prog (tabS [(i_l1In, e_l1In), (i_sHdAt, e_sHdAt), (i_sKid, e_sKid), (i_sRead, e_sRead)]) kp_sSeen F_sSeen [1, 1, 1, 1, 1, 0, 1, 0] n (st_sSeen_1 w k r1 r2 r3 nx25_4 fx25_4 x32) K = (
 bif decide (x32 < (↑r3.length : Int)) then
  gd (decide (0 ≤ x32) && (x32.toNat.blt r3.length && true)) <|
  gd ((0 + x32.toNat).blt r3.length && true && T.isI IntKind.i64 (atL rowI r3 (0 + x32.toNat) 0)) <|
  entK ok_sHdAt ea_sHdAt (f_sHdAt) [(0, false, [C.tr false (eL 13 Nd.cs w.3)]),
  (0, false, [C.tr false (T.int IntKind.i64 (atL rowI r3 (0 + x32.toNat) 0).toI)])] fun (r4 : Hd) =>
  gd (nx25_4.ble nx25_4 && true) <|
  gd (((nx25_4 + 1) * 16).ble 70368744177664 && (nx25_4 + 1).ble 70368744177664) <|
  gd ((nx25_4 + 1).ble (nx25_4 + 1) && true) <|
  K .normal (st_sSeen_1 w k r1 r2 r3 (nx25_4 + 1) (appF nx25_4 fx25_4 (plainF (cutT 0 1 (rowsT [[T.int IntKind.i64 r4.1, T.int IntKind.i64 r4.2]])))) (IntKind.i64.wrap (x32 + 1)))
 else
 K (.exit 0) (ex_sSeen_1_1 w k r1 r2 r3 nx25_4 fx25_4 x32)) := by kernel_rfl
theorem post_sSeen_1_1 (w : Wd) (k : Int) (r1 : Hd) (r2 : Hd) (r3 : List Int) (nx25_4 : Nat) (fx25_4 : Nat → Nat → T) (x32 : Int) (n : Nat) : contAt prog (tabS [(i_l1In, e_l1In), (i_sHdAt, e_sHdAt), (i_sKid, e_sKid), (i_sRead, e_sRead)]) kp_sSeen F_sSeen ts_sSeen [1, 1, 1, 1, 1, 0, 1, 0] [] n (.exit 0) (ex_sSeen_1_1 w k r1 r2 r3 nx25_4 fx25_4 x32) = (
 loopAt prog (tabS [(i_l1In, e_l1In), (i_sHdAt, e_sHdAt), (i_sKid, e_sKid), (i_sRead, e_sRead)]) kp_sSeen F_sSeen [1, 1, 1, 1, 1, 1, 0, 1, 0] n n (st_sSeen_2 w k r1 r2 nx25_4 fx25_4 x32 (0) (fun x x_1 => T.hole) (0)) (contAt prog (tabS [(i_l1In, e_l1In), (i_sHdAt, e_sHdAt), (i_sKid, e_sKid), (i_sRead, e_sRead)]) kp_sSeen F_sSeen ts_sSeen [1, 1, 1, 1, 1, 1, 0, 1, 0] [] n)) := by kernel_rfl
theorem pre_sSeen (w : Wd) (k : Int) (n : Nat) : body prog (tabS [(i_l1In, e_l1In), (i_sHdAt, e_sHdAt), (i_sKid, e_sKid), (i_sRead, e_sRead)]) kp_sSeen n F_sSeen [aR w.cs, aI k] = (
 bif decide (0 ≤ k) then
  bif !decide (k ≤ IntKind.i64.wrap ((↑w.3.length : Int) - 1)) then
   some ([(true, [.tr true (T.int IntKind.i64 0), .tr true (T.int IntKind.i64 0), .tr true (T.int IntKind.i64 0), .tr true (T.int IntKind.i64 0), .tr true (.arr (2) (0) (fun x x_1 => T.hole)), .tr true (T.int IntKind.i64 0), .tr true (T.int IntKind.i64 0), .tr true (T.bool false), .tr true (T.int IntKind.i64 0), .tr true (.arr (1) (0) (fun x x_1 => T.hole)), .tr true (.arr (1) (0) (fun x x_1 => T.hole))])], [(false, []), (false, [])])
  else
  gd (decide (0 ≤ k) && (k.toNat.blt w.3.length && true)) <|
  gd (T.isI IntKind.i64 (atL Nd.cs w.3 k.toNat 0) && T.isI IntKind.i64 (atL Nd.cs w.3 k.toNat 1) &&
                      T.isI IntKind.i64 (atL Nd.cs w.3 k.toNat 2) &&
                    T.isI IntKind.i64 (atL Nd.cs w.3 k.toNat 3) &&
                  T.isI IntKind.i64 (atL Nd.cs w.3 k.toNat 4) &&
                T.isI IntKind.i64 (atL Nd.cs w.3 k.toNat 5) &&
              T.isI IntKind.i64 (atL Nd.cs w.3 k.toNat 6) &&
            T.isI IntKind.i64 (atL Nd.cs w.3 k.toNat 7) &&
          ((atL Nd.cs w.3 k.toNat 8).isArr && (atL Nd.cs w.3 k.toNat 8).wd.beq 1) &&
        T.isI IntKind.i64 (atL Nd.cs w.3 k.toNat 9) &&
      T.isI IntKind.i64 (atL Nd.cs w.3 k.toNat 10) &&
    ((atL Nd.cs w.3 k.toNat 11).isArr && (atL Nd.cs w.3 k.toNat 11).wd.beq 3) &&
  ((atL Nd.cs w.3 k.toNat 12).isArr && (atL Nd.cs w.3 k.toNat 12).wd.beq 1)) <|
  entK ok_sHdAt ea_sHdAt (f_sHdAt) [(0, false, [C.tr false (eL 13 Nd.cs w.3)]), (0, false, [C.tr false (T.int IntKind.i64 k)])] fun (r1 : Hd) =>
  entK ok_sHdAt ea_sHdAt (f_sHdAt) [(0, false, [C.tr false (eL 13 Nd.cs w.3)]),
  (0, false, [C.tr false (T.int IntKind.i64 (IntKind.i64.wrap ((atL Nd.cs w.3 k.toNat 3).toI - 1)))])] fun (r2 : Hd) =>
  gd (((0 + (atL Nd.cs w.3 k.toNat 12).ln) * 8).ble 70368744177664 &&
  (0 + (atL Nd.cs w.3 k.toNat 12).ln).ble 70368744177664) <|
  gd ((0 + (atL Nd.cs w.3 k.toNat 12).ln).ble (0 + (atL Nd.cs w.3 k.toNat 12).ln) && true) <|
  gd ((0 + (atL Nd.cs w.3 k.toNat 12).ln).ble (0 + (atL Nd.cs w.3 k.toNat 12).ln) && true) <|
  entK ok_sKid ea_sKid (f_sKid) [(0, false, [C.tr false (eL 13 Nd.cs w.3)]),
  (0, false, [C.tr false (T.int IntKind.i64 (atL Nd.cs w.3 k.toNat 5).toI)])] fun (r3 : List Int) =>
  gd (r3.length.ble r3.length && true) <|
  loopAt prog (tabS [(i_l1In, e_l1In), (i_sHdAt, e_sHdAt), (i_sKid, e_sKid), (i_sRead, e_sRead)]) kp_sSeen F_sSeen [1, 1, 1, 1, 1, 0, 1, 0] n n (st_sSeen_1 w k r1 r2 r3 (0) (fun x x_1 => T.hole) (0)) (contAt prog (tabS [(i_l1In, e_l1In), (i_sHdAt, e_sHdAt), (i_sKid, e_sKid), (i_sRead, e_sRead)]) kp_sSeen F_sSeen ts_sSeen [1, 1, 1, 1, 1, 0, 1, 0] [] n)
 else
 some ([(true, [.tr true (T.int IntKind.i64 0), .tr true (T.int IntKind.i64 0), .tr true (T.int IntKind.i64 0), .tr true (T.int IntKind.i64 0), .tr true (.arr (2) (0) (fun x x_1 => T.hole)), .tr true (T.int IntKind.i64 0), .tr true (T.int IntKind.i64 0), .tr true (T.bool false), .tr true (T.int IntKind.i64 0), .tr true (.arr (1) (0) (fun x x_1 => T.hole)), .tr true (.arr (1) (0) (fun x x_1 => T.hole))])], [(false, []), (false, [])])) := by kernel_rfl
end Go.Mach.F
namespace Go.Mach.F
open Go Go.Mach Go.Proofs.Try
theorem appF_app {α : Type} (row : α → List T) (l l' : List α) : appF l.length (atL row l) (atL row l') = atL row (l ++ l') := by
  funext j k
  unfold appF
  rw [blt_d, Bool.cond_decide]
  by_cases h : j < l.length
  · rw [if_pos h]
    unfold atL
    rw [List.getElem?_append_left h]
  · rw [if_neg h]
    unfold atL
    rw [List.getElem?_append_right (by omega)]
theorem rows1 {α : Type} (row : α → List T) (x : α) : rowsT [row x] = atL row [x] := by
  funext j k
  cases j with
  | zero => rfl
  | succ j => simp [rowsT, atL]
end Go.Mach.F
namespace Go.Mach.F
open Go Go.Mach Go.Proofs.Try
--=set_option maxRecDepth 100000
def allK (rs : List Rm) : List Hd := rs.flatMap Rm.kids
/-- What a walk down has met: handles of the model, or the first one, each once. -/
structure MetOk (rs : List Rm) (h0 : Hd) (met : List Hd) : Prop where
  nd : met.Nodup
  sub : ∀ x ∈ met, x = h0 ∨ x ∈ allK rs
structure GatOk (k : Nat) (m : Ml) (h : Hd) (met : List Hd) : Prop where
  rooms : ok_RmS m.rooms
  kids : (allK m.rooms).length < LM
  tags : cntL (fun r => r.tags.length) m.rooms ≤ LM
  walk : ∃ h0, MetOk m.rooms h0 met ∧ (h = h0 ∨ h ∈ allK m.rooms)
  fuel : (allK m.rooms).length + 2 ≤ met.length + k
end Go.Mach.F
namespace Go.Mach.F
open Go Go.Mach Go.Proofs.Try
theorem nodup_len : ∀ {U l : List Hd}, l.Nodup → (∀ x ∈ l, x ∈ U) → l.length ≤ U.length
  | [], l, _, hs => by
    have : l = [] := List.eq_nil_iff_forall_not_mem.2 fun x hx => by simpa using hs x hx
    rw [this]
    exact Nat.le_refl _
  | u :: U, l, h, hs => by
    have h1 := nodup_len (U := U) (l := l.erase u) (h.erase u) fun x hx => by
      rw [h.mem_erase_iff] at hx
      exact (List.mem_cons.1 (hs x hx.2)).resolve_left hx.1
    rw [List.length_erase] at h1
    simp only [List.length_cons]
    split at h1 <;> omega
theorem MetOk.len {rs : List Rm} {h0 : Hd} {met : List Hd} (h : MetOk rs h0 met) : met.length ≤ (allK rs).length + 1 := by
  have := nodup_len (U := h0 :: allK rs) h.nd fun x hx => by
    rcases h.sub x hx with rfl | h1
    · exact List.mem_cons_self
    · exact List.mem_cons_of_mem _ h1
  simpa using this
theorem MetOk.add {rs : List Rm} {h0 h : Hd} {met : List Hd} (hm : MetOk rs h0 met) (hh : h = h0 ∨ h ∈ allK rs) (hn : h ∉ met) : MetOk rs h0 (met ++ [h]) where
  nd := by
    rw [List.nodup_append]
    refine ⟨hm.nd, by simp, fun a ha b hb => ?_⟩
    rw [List.mem_singleton] at hb
    subst hb
    intro e
    subst e
    exact hn ha
  sub := fun x hx => by
    rcases List.mem_append.1 hx with h1 | h1
    · exact hm.sub x h1
    · rw [List.mem_singleton.1 h1]
      exact hh
end Go.Mach.F
namespace Go.Mach.F
open Go Go.Mach Go.Proofs.Try
theorem plainH (h : Hd) : plainF (cutT 0 1 (rowsT [[T.int .i64 h.slot, T.int .i64 h.gen]])) = atL Hd.cs [h] := by
  rw [show [T.int .i64 h.slot, T.int .i64 h.gen] = Hd.cs h from rfl, rows1 Hd.cs, show cutT 0 1 (atL Hd.cs [h]) = atL Hd.cs [h] from cut_all Hd.cs [h], plain_Hd]
end Go.Mach.F
namespace Go.Mach.F
open Go Go.Mach Go.Proofs.Try
theorem kidN_mem {l : List Nd} : ∀ (n : Nat) (f : Int) (y : Int), y ∈ kidN l n f → 0 ≤ y ∧ y < (l.length : Int)
  | 0, _, _, h => by simp [kidN] at h
  | n + 1, f, y, h => by
    unfold kidN at h
    by_cases h1 : 1 ≤ f
    · by_cases h2 : f ≤ (l.length : Int)
      · rw [decide_eq_true h1, decide_eq_true h2, Bool.and_self, cond_true, List.mem_cons] at h
        rcases h with rfl | h
        · omega
        · exact kidN_mem n _ y h
      · rw [decide_eq_false h2, Bool.and_false, cond_false] at h
        cases h
    · rw [decide_eq_false h1, Bool.false_and, cond_false] at h
      cases h
theorem kidN_len {l : List Nd} : ∀ (n : Nat) (f : Int), (kidN l n f).length ≤ n
  | 0, _ => Nat.le_refl _
  | n + 1, f => by
    have ih := kidN_len (l := l) n (nd l (f - 1)).next
    unfold kidN
    cases (decide (1 ≤ f) && decide (f ≤ (l.length : Int))) with
    | true => simp (implicitDefEqProofs := false) only [cond_true, List.length_cons]; omega
    | false => exact Nat.zero_le _
theorem tkm_next {α β : Type} (f : α → β) {l : List α} {i : Nat} {x : α} (hx : l[i]? = some x) : (l.take (i + 1)).map f = (l.take i).map f ++ [f x] := by
  rw [List.take_add_one, hx, List.map_append]
  rfl
theorem tkm_len {α β : Type} (f : α → β) (l : List α) (i : Nat) : ((l.take i).map f).length ≤ l.length := by
  rw [List.length_map, List.length_take]
  omega
theorem body_iSeen (w : Wd) (k : Int) (h : ok_iSeen (w, k)) : body prog (tabS [(i_isSlot, e_isSlot), (i_iHdAt, e_iHdAt), (i_clI, e_clI), (i_iKid, e_iKid), (i_iRead, e_iRead)]) kp_iSeen (w.l.length + (nd w.l k).things.length + 1) F_iSeen (ea_iSeen (w, k)) = some (erR 2 (f_iSeen (w, k)).cs) := by
  have hlm := lm
  obtain ⟨hl, hmem, hk, hn⟩ := h
  dsimp only at hl hmem hk hn
  unfold ea_iSeen f_iSeen seenR
  dsimp only
  rw [pre_iSeen]
  have w1 : IntKind.i64.wrap ((w.l.length : Int) - 1) = (w.l.length : Int) - 1 := by rw [IntKind.wrap_i64]; omega
  by_cases h0 : 0 ≤ k
  case neg =>
    simp (implicitDefEqProofs := false) only [h0, decide_false, cond_false, Bool.false_and]
    rfl
  by_cases h1 : k < (w.l.length : Int)
  case neg =>
    simp (implicitDefEqProofs := false) only [w1, h0, h1, show ¬ k ≤ (w.l.length : Int) - 1 from by omega, decide_true, decide_false, cond_true, cond_false, Bool.not_false, Bool.and_false]
    rfl
  have h2 : k ≤ (w.l.length : Int) - 1 := by omega
  have hb : k.toNat < w.l.length := by omega
  have hx := nd_getk hb
  obtain ⟨x, hxe⟩ : ∃ x, x = nd w.l k := ⟨_, rfl⟩
  rw [← hxe] at hx ⊢
  obtain ⟨n1, n2, n3, n4, n5⟩ := hn x (List.mem_of_getElem? hx)
  have c0 : ok_iHdAt (w.l, k) := ⟨hl, hk⟩
  have c1 : ok_iHdAt (w.l, IntKind.i64.wrap (x.up - 1)) := ⟨hl, inI_wrap _⟩
  have c3 : ok_iKid (w.l, x.first) := ⟨hl, n2, fun y hy => (hn y hy).1⟩
  have c2 : ok_clI x.tags := n5
  simp (implicitDefEqProofs := false) only [lt_d, ge0_d, Int.toNat_natCast, blt_d, ble_self, beq_self, decide_true, cond_true, Bool.and_self, Bool.and_true, Bool.true_and, gd_true, Nat.zero_add, List.getD_cons_zero, List.getD_cons_succ, isI_int, toI_int, isB_bool, toB_bool, eL_T, arr_ln, arr_fn, arr_wd, arr_is, arr_get, w1, h0, h1, h2, hb, atL_of hx, Nd.cs, Bool.not_true, cond_false, ble_d, Nat.le_refl]
  rw [entK_of (dm_iHdAt c0) (iv_iHdAt c0), entK_of (dm_iHdAt c1) (iv_iHdAt c1), entK_of (dm_clI c2) (iv_clI c2), entK_of (dm_iKid c3) (iv_iKid c3)]
  simp (implicitDefEqProofs := false) only [f_iHdAt, f_iKid, f_clI]
  obtain ⟨Q, hQ⟩ : ∃ Q, Q = kids w.l x.first := ⟨_, rfl⟩
  have hQl : Q.length ≤ w.l.length := by rw [hQ]; exact kidN_len _ _
  have hQm : ∀ y, y ∈ Q → 0 ≤ y ∧ y < (w.l.length : Int) := fun y hy => by rw [hQ] at hy; exact kidN_mem _ _ y hy
  rw [← hQ]
  try simp (implicitDefEqProofs := false) only [ble_d, Nat.le_refl, decide_true, Bool.and_true, gd_true]
  have hst : st_iSeen_1 w k (hdAt w.l k) (hdAt w.l (IntKind.i64.wrap (x.up - 1))) x.tags Q 0 (fun _ _ => T.hole) 0 = (fun i : Nat => (st_iSeen_1 w k (hdAt w.l k) (hdAt w.l (IntKind.i64.wrap (x.up - 1))) x.tags Q ((Q.take i).map (hdAt w.l)).length (atL Hd.cs ((Q.take i).map (hdAt w.l))) (i : Nat))) 0 := rfl
  rw [hst, forLoop Q.length (fun i : Nat => (st_iSeen_1 w k (hdAt w.l k) (hdAt w.l (IntKind.i64.wrap (x.up - 1))) x.tags Q ((Q.take i).map (hdAt w.l)).length (atL Hd.cs ((Q.take i).map (hdAt w.l))) (i : Nat))) (ex_iSeen_1_1 w k (hdAt w.l k) (hdAt w.l (IntKind.i64.wrap (x.up - 1))) x.tags Q (Q.map (hdAt w.l)).length (atL Hd.cs (Q.map (hdAt w.l))) Q.length) 0 (fun i K hi => ?_) (fun K => ?_) _ (by omega)]
  · rw [post_iSeen_1_1]
    have hst2 : st_iSeen_2 w k (hdAt w.l k) (hdAt w.l (IntKind.i64.wrap (x.up - 1))) x.tags (Q.map (hdAt w.l)).length (atL Hd.cs (Q.map (hdAt w.l))) Q.length 0 (fun _ _ => T.hole) 0 = (fun i : Nat => (st_iSeen_2 w k (hdAt w.l k) (hdAt w.l (IntKind.i64.wrap (x.up - 1))) x.tags (Q.map (hdAt w.l)).length (atL Hd.cs (Q.map (hdAt w.l))) Q.length ((x.things.take i).map (fun t => (⟨(rdT w.p.mem t 0 t.len).1⟩ : Sf))).length (atL Sf.cs ((x.things.take i).map (fun t => (⟨(rdT w.p.mem t 0 t.len).1⟩ : Sf)))) (i : Nat))) 0 := rfl
    rw [hst2, forLoop x.things.length (fun i : Nat => (st_iSeen_2 w k (hdAt w.l k) (hdAt w.l (IntKind.i64.wrap (x.up - 1))) x.tags (Q.map (hdAt w.l)).length (atL Hd.cs (Q.map (hdAt w.l))) Q.length ((x.things.take i).map (fun t => (⟨(rdT w.p.mem t 0 t.len).1⟩ : Sf))).length (atL Sf.cs ((x.things.take i).map (fun t => (⟨(rdT w.p.mem t 0 t.len).1⟩ : Sf)))) (i : Nat))) (ex_iSeen_2_1 w k (hdAt w.l k) (hdAt w.l (IntKind.i64.wrap (x.up - 1))) x.tags (Q.map (hdAt w.l)).length (atL Hd.cs (Q.map (hdAt w.l))) Q.length (x.things.map (fun t => (⟨(rdT w.p.mem t 0 t.len).1⟩ : Sf))).length (atL Sf.cs (x.things.map (fun t => (⟨(rdT w.p.mem t 0 t.len).1⟩ : Sf)))) x.things.length) 2 (fun i K hi => ?_) (fun K => ?_) _ (by omega)]
    · rw [post_iSeen_2_1]
      simp (implicitDefEqProofs := false) only [lt_d, ge0_d, Int.toNat_natCast, blt_d, ble_self, beq_self, decide_true, cond_true, Bool.and_self, Bool.and_true, Bool.true_and, gd_true, Nat.zero_add, List.getD_cons_zero, List.getD_cons_succ, isI_int, toI_int, isB_bool, toB_bool, eL_T, arr_ln, arr_fn, arr_wd, arr_is, arr_get, atL_of hx, Nd.cs, ble_d, Nat.le_refl]
      rfl
    · have hy := List.getElem?_eq_getElem hi
      obtain ⟨y, hye⟩ : ∃ y, y = x.things[i] := ⟨_, rfl⟩
      rw [← hye] at hy
      have c5 : ok_iRead (w.p.mem, y, 0, y.len) := ⟨hmem, n4 y (List.mem_of_getElem? hy), by show inI 0; unfold inI; omega, n4 y (List.mem_of_getElem? hy)⟩
      have w2 : IntKind.i64.wrap ((i : Int) + 1) = ((i + 1 : Nat) : Int) := wrapS (by omega)
      have hol := tkm_len (fun t => (⟨(rdT w.p.mem t 0 t.len).1⟩ : Sf)) x.things i
      have s1 : (((x.things.take i).map (fun t => (⟨(rdT w.p.mem t 0 t.len).1⟩ : Sf))).length + 1) * 24 ≤ 70368744177664 := by omega
      have s2 : ((x.things.take i).map (fun t => (⟨(rdT w.p.mem t 0 t.len).1⟩ : Sf))).length + 1 ≤ 70368744177664 := by omega
      rw [tkm_next (fun t => (⟨(rdT w.p.mem t 0 t.len).1⟩ : Sf)) hy, round_iSeen_2]
      simp (implicitDefEqProofs := false) only [lt_d, ge0_d, Int.toNat_natCast, blt_d, ble_self, beq_self, decide_true, cond_true, Bool.and_self, Bool.and_true, Bool.true_and, gd_true, Nat.zero_add, List.getD_cons_zero, List.getD_cons_succ, isI_int, toI_int, isB_bool, toB_bool, eL_T, arr_ln, arr_fn, arr_wd, arr_is, arr_get, hi, atL_of hx, Nd.cs, atL_of hy, Th.cs, w2, ble_d, Nat.le_refl, s1, s2]
      rw [entK_of (dm_iRead c5) (iv_iRead c5)]
      simp (implicitDefEqProofs := false) only [f_iRead, ble_d, Nat.le_refl, decide_true, Bool.and_true, gd_true, List.length_append, List.length_singleton]
      rw [← app1g]
      rfl
    · rw [round_iSeen_2]
      simp (implicitDefEqProofs := false) only [lt_d, ge0_d, Int.toNat_natCast, blt_d, ble_self, beq_self, decide_true, cond_true, Bool.and_self, Bool.and_true, Bool.true_and, gd_true, Nat.zero_add, List.getD_cons_zero, List.getD_cons_succ, isI_int, toI_int, isB_bool, toB_bool, eL_T, arr_ln, arr_fn, arr_wd, arr_is, arr_get, atL_of hx, Nd.cs, Nat.lt_irrefl, decide_false, cond_false, List.take_length]
  · have hq := List.getElem?_eq_getElem hi
    obtain ⟨q, hqe⟩ : ∃ q, q = Q[i] := ⟨_, rfl⟩
    rw [← hqe] at hq
    have hqm := hQm q (List.mem_of_getElem? hq)
    have c4 : ok_iHdAt (w.l, q) := ⟨hl, by show inI q; unfold inI; omega⟩
    have w2 : IntKind.i64.wrap ((i : Int) + 1) = ((i + 1 : Nat) : Int) := wrapS (by omega)
    have hol := tkm_len (hdAt w.l) Q i
    have s1 : (((Q.take i).map (hdAt w.l)).length + 1) * 16 ≤ 70368744177664 := by omega
    have s2 : ((Q.take i).map (hdAt w.l)).length + 1 ≤ 70368744177664 := by omega
    rw [tkm_next (hdAt w.l) hq, round_iSeen_1]
    simp (implicitDefEqProofs := false) only [lt_d, ge0_d, Int.toNat_natCast, blt_d, ble_self, beq_self, decide_true, cond_true, Bool.and_self, Bool.and_true, Bool.true_and, gd_true, Nat.zero_add, List.getD_cons_zero, List.getD_cons_succ, isI_int, toI_int, isB_bool, toB_bool, eL_T, arr_ln, arr_fn, arr_wd, arr_is, arr_get, hi, atL_of hq, rowI, w2, ble_d, Nat.le_refl, s1, s2]
    rw [entK_of (dm_iHdAt c4) (iv_iHdAt c4)]
    simp (implicitDefEqProofs := false) only [f_iHdAt, plainH, appF_app, List.length_append, List.length_singleton]
  · rw [round_iSeen_1]
    simp (implicitDefEqProofs := false) only [lt_d, Nat.lt_irrefl, decide_false, cond_false, List.take_length]
theorem s_iSeen : EntOk prog i_iSeen e_iSeen := ent_ok ea_iSeen_inj fun x hx =>
  body_sound (φ := (tabS [(i_isSlot, e_isSlot), (i_iHdAt, e_iHdAt), (i_clI, e_clI), (i_iKid, e_iKid), (i_iRead, e_iRead)])) (tabS_cons s_isSlot (tabS_cons s_iHdAt (tabS_cons s_clI (tabS_cons s_iKid (tabS_cons s_iRead tabS_nil))))) mixed (kp := kp_iSeen) (n := x.1.l.length + (nd x.1.l x.2).things.length + 1) func23 (c := bodyOf F_iSeen) (by kernel_rfl) (body_iSeen x.1 x.2 hx) (name_ok (by kernel_rfl))
theorem body_sSeen (w : Wd) (k : Int) (h : ok_sSeen (w, k)) : body prog (tabS [(i_l1In, e_l1In), (i_sHdAt, e_sHdAt), (i_sKid, e_sKid), (i_sRead, e_sRead)]) kp_sSeen (w.l.length + (nd w.l k).things.length + 1) F_sSeen (ea_sSeen (w, k)) = some (erR 2 (f_sSeen (w, k)).cs) := by
  have hlm := lm
  obtain ⟨hl, hmem, hk, hn⟩ := h
  dsimp only at hl hmem hk hn
  unfold ea_sSeen f_sSeen seenR
  dsimp only
  rw [pre_sSeen]
  have w1 : IntKind.i64.wrap ((w.l.length : Int) - 1) = (w.l.length : Int) - 1 := by rw [IntKind.wrap_i64]; omega
  by_cases h0 : 0 ≤ k
  case neg =>
    simp (implicitDefEqProofs := false) only [h0, decide_false, cond_false, Bool.false_and]
    rfl
  by_cases h1 : k < (w.l.length : Int)
  case neg =>
    simp (implicitDefEqProofs := false) only [w1, h0, h1, show ¬ k ≤ (w.l.length : Int) - 1 from by omega, decide_true, decide_false, cond_true, cond_false, Bool.not_false, Bool.and_false]
    rfl
  have h2 : k ≤ (w.l.length : Int) - 1 := by omega
  have hb : k.toNat < w.l.length := by omega
  have hx := nd_getk hb
  obtain ⟨x, hxe⟩ : ∃ x, x = nd w.l k := ⟨_, rfl⟩
  rw [← hxe] at hx ⊢
  obtain ⟨n1, n2, n3, n4, n5⟩ := hn x (List.mem_of_getElem? hx)
  have c0 : ok_sHdAt (w.l, k) := ⟨hl, hk⟩
  have c1 : ok_sHdAt (w.l, IntKind.i64.wrap (x.up - 1)) := ⟨hl, inI_wrap _⟩
  have c3 : ok_sKid (w.l, x.first) := ⟨hl, n2, fun y hy => (hn y hy).1⟩
  have t1 : x.tags.length * 8 ≤ 70368744177664 := by omega
  have t2 : x.tags.length ≤ 70368744177664 := by omega
  simp (implicitDefEqProofs := false) only [lt_d, ge0_d, Int.toNat_natCast, blt_d, ble_self, beq_self, decide_true, cond_true, Bool.and_self, Bool.and_true, Bool.true_and, gd_true, Nat.zero_add, List.getD_cons_zero, List.getD_cons_succ, isI_int, toI_int, isB_bool, toB_bool, eL_T, arr_ln, arr_fn, arr_wd, arr_is, arr_get, w1, h0, h1, h2, hb, atL_of hx, Nd.cs, Bool.not_true, cond_false, ble_d, Nat.le_refl, t1, t2]
  rw [entK_of (dm_sHdAt c0) (iv_sHdAt c0), entK_of (dm_sHdAt c1) (iv_sHdAt c1), entK_of (dm_sKid c3) (iv_sKid c3)]
  simp (implicitDefEqProofs := false) only [f_sHdAt, f_sKid]
  obtain ⟨Q, hQ⟩ : ∃ Q, Q = kids w.l x.first := ⟨_, rfl⟩
  have hQl : Q.length ≤ w.l.length := by rw [hQ]; exact kidN_len _ _
  have hQm : ∀ y, y ∈ Q → 0 ≤ y ∧ y < (w.l.length : Int) := fun y hy => by rw [hQ] at hy; exact kidN_mem _ _ y hy
  rw [← hQ]
  try simp (implicitDefEqProofs := false) only [ble_d, Nat.le_refl, decide_true, Bool.and_true, gd_true]
  have hst : st_sSeen_1 w k (hdAt w.l k) (hdAt w.l (IntKind.i64.wrap (x.up - 1))) Q 0 (fun _ _ => T.hole) 0 = (fun i : Nat => (st_sSeen_1 w k (hdAt w.l k) (hdAt w.l (IntKind.i64.wrap (x.up - 1))) Q ((Q.take i).map (hdAt w.l)).length (atL Hd.cs ((Q.take i).map (hdAt w.l))) (i : Nat))) 0 := rfl
  rw [hst, forLoop Q.length (fun i : Nat => (st_sSeen_1 w k (hdAt w.l k) (hdAt w.l (IntKind.i64.wrap (x.up - 1))) Q ((Q.take i).map (hdAt w.l)).length (atL Hd.cs ((Q.take i).map (hdAt w.l))) (i : Nat))) (ex_sSeen_1_1 w k (hdAt w.l k) (hdAt w.l (IntKind.i64.wrap (x.up - 1))) Q (Q.map (hdAt w.l)).length (atL Hd.cs (Q.map (hdAt w.l))) Q.length) 0 (fun i K hi => ?_) (fun K => ?_) _ (by omega)]
  · rw [post_sSeen_1_1]
    have hst2 : st_sSeen_2 w k (hdAt w.l k) (hdAt w.l (IntKind.i64.wrap (x.up - 1))) (Q.map (hdAt w.l)).length (atL Hd.cs (Q.map (hdAt w.l))) Q.length 0 (fun _ _ => T.hole) 0 = (fun i : Nat => (st_sSeen_2 w k (hdAt w.l k) (hdAt w.l (IntKind.i64.wrap (x.up - 1))) (Q.map (hdAt w.l)).length (atL Hd.cs (Q.map (hdAt w.l))) Q.length ((x.things.take i).map (fun t => (⟨(rdT w.p.mem t 0 t.len).1⟩ : Sf))).length (atL Sf.cs ((x.things.take i).map (fun t => (⟨(rdT w.p.mem t 0 t.len).1⟩ : Sf)))) (i : Nat))) 0 := rfl
    rw [hst2, forLoop x.things.length (fun i : Nat => (st_sSeen_2 w k (hdAt w.l k) (hdAt w.l (IntKind.i64.wrap (x.up - 1))) (Q.map (hdAt w.l)).length (atL Hd.cs (Q.map (hdAt w.l))) Q.length ((x.things.take i).map (fun t => (⟨(rdT w.p.mem t 0 t.len).1⟩ : Sf))).length (atL Sf.cs ((x.things.take i).map (fun t => (⟨(rdT w.p.mem t 0 t.len).1⟩ : Sf)))) (i : Nat))) (ex_sSeen_2_1 w k (hdAt w.l k) (hdAt w.l (IntKind.i64.wrap (x.up - 1))) (Q.map (hdAt w.l)).length (atL Hd.cs (Q.map (hdAt w.l))) Q.length (x.things.map (fun t => (⟨(rdT w.p.mem t 0 t.len).1⟩ : Sf))).length (atL Sf.cs (x.things.map (fun t => (⟨(rdT w.p.mem t 0 t.len).1⟩ : Sf)))) x.things.length) 2 (fun i K hi => ?_) (fun K => ?_) _ (by omega)]
    · rw [post_sSeen_2_1]
      simp (implicitDefEqProofs := false) only [lt_d, ge0_d, Int.toNat_natCast, blt_d, ble_self, beq_self, decide_true, cond_true, Bool.and_self, Bool.and_true, Bool.true_and, gd_true, Nat.zero_add, List.getD_cons_zero, List.getD_cons_succ, isI_int, toI_int, isB_bool, toB_bool, eL_T, arr_ln, arr_fn, arr_wd, arr_is, arr_get, atL_of hx, Nd.cs, ble_d, Nat.le_refl, app0, plain_I, cut_all, t1, t2]
      rfl
    · have hy := List.getElem?_eq_getElem hi
      obtain ⟨y, hye⟩ : ∃ y, y = x.things[i] := ⟨_, rfl⟩
      rw [← hye] at hy
      have c5 : ok_sRead (w.p.mem, y, 0, y.len) := ⟨hmem, n4 y (List.mem_of_getElem? hy), by show inI 0; unfold inI; omega, n4 y (List.mem_of_getElem? hy)⟩
      have w2 : IntKind.i64.wrap ((i : Int) + 1) = ((i + 1 : Nat) : Int) := wrapS (by omega)
      have hol := tkm_len (fun t => (⟨(rdT w.p.mem t 0 t.len).1⟩ : Sf)) x.things i
      have s1 : (((x.things.take i).map (fun t => (⟨(rdT w.p.mem t 0 t.len).1⟩ : Sf))).length + 1) * 24 ≤ 70368744177664 := by omega
      have s2 : ((x.things.take i).map (fun t => (⟨(rdT w.p.mem t 0 t.len).1⟩ : Sf))).length + 1 ≤ 70368744177664 := by omega
      rw [tkm_next (fun t => (⟨(rdT w.p.mem t 0 t.len).1⟩ : Sf)) hy, round_sSeen_2]
      simp (implicitDefEqProofs := false) only [lt_d, ge0_d, Int.toNat_natCast, blt_d, ble_self, beq_self, decide_true, cond_true, Bool.and_self, Bool.and_true, Bool.true_and, gd_true, Nat.zero_add, List.getD_cons_zero, List.getD_cons_succ, isI_int, toI_int, isB_bool, toB_bool, eL_T, arr_ln, arr_fn, arr_wd, arr_is, arr_get, hi, atL_of hx, Nd.cs, atL_of hy, Th.cs, w2, ble_d, Nat.le_refl, s1, s2]
      rw [entK_of (dm_sRead c5) (iv_sRead c5)]
      simp (implicitDefEqProofs := false) only [f_sRead, ble_d, Nat.le_refl, decide_true, Bool.and_true, gd_true, List.length_append, List.length_singleton]
      rw [← app1g]
      rfl
    · rw [round_sSeen_2]
      simp (implicitDefEqProofs := false) only [lt_d, ge0_d, Int.toNat_natCast, blt_d, ble_self, beq_self, decide_true, cond_true, Bool.and_self, Bool.and_true, Bool.true_and, gd_true, Nat.zero_add, List.getD_cons_zero, List.getD_cons_succ, isI_int, toI_int, isB_bool, toB_bool, eL_T, arr_ln, arr_fn, arr_wd, arr_is, arr_get, atL_of hx, Nd.cs, Nat.lt_irrefl, decide_false, cond_false, List.take_length]
  · have hq := List.getElem?_eq_getElem hi
    obtain ⟨q, hqe⟩ : ∃ q, q = Q[i] := ⟨_, rfl⟩
    rw [← hqe] at hq
    have hqm := hQm q (List.mem_of_getElem? hq)
    have c4 : ok_sHdAt (w.l, q) := ⟨hl, by show inI q; unfold inI; omega⟩
    have w2 : IntKind.i64.wrap ((i : Int) + 1) = ((i + 1 : Nat) : Int) := wrapS (by omega)
    have hol := tkm_len (hdAt w.l) Q i
    have s1 : (((Q.take i).map (hdAt w.l)).length + 1) * 16 ≤ 70368744177664 := by omega
    have s2 : ((Q.take i).map (hdAt w.l)).length + 1 ≤ 70368744177664 := by omega
    rw [tkm_next (hdAt w.l) hq, round_sSeen_1]
    simp (implicitDefEqProofs := false) only [lt_d, ge0_d, Int.toNat_natCast, blt_d, ble_self, beq_self, decide_true, cond_true, Bool.and_self, Bool.and_true, Bool.true_and, gd_true, Nat.zero_add, List.getD_cons_zero, List.getD_cons_succ, isI_int, toI_int, isB_bool, toB_bool, eL_T, arr_ln, arr_fn, arr_wd, arr_is, arr_get, hi, atL_of hq, rowI, w2, ble_d, Nat.le_refl, s1, s2]
    rw [entK_of (dm_sHdAt c4) (iv_sHdAt c4)]
    simp (implicitDefEqProofs := false) only [f_sHdAt, plainH, appF_app, List.length_append, List.length_singleton]
  · rw [round_sSeen_1]
    simp (implicitDefEqProofs := false) only [lt_d, Nat.lt_irrefl, decide_false, cond_false, List.take_length]
theorem s_sSeen : EntOk prog i_sSeen e_sSeen := ent_ok ea_sSeen_inj fun x hx =>
  body_sound (φ := (tabS [(i_l1In, e_l1In), (i_sHdAt, e_sHdAt), (i_sKid, e_sKid), (i_sRead, e_sRead)])) (tabS_cons s_l1In (tabS_cons s_sHdAt (tabS_cons s_sKid (tabS_cons s_sRead tabS_nil)))) mixed (kp := kp_sSeen) (n := x.1.l.length + (nd x.1.l x.2).things.length + 1) func21 (c := bodyOf F_sSeen) (by kernel_rfl) (body_sSeen x.1 x.2 hx) (name_ok (by kernel_rfl))
end Go.Mach.F
namespace Go.Mach.F
open Go Go.Mach Go.Proofs.Try
--=set_option maxRecDepth 100000
def has (l : List Int) (k : Int) : Bool := decide (k ∈ l)
def idx (l : List Int) (k : Int) : Int := match (List.range l.length).find? (fun i => decide (k = ri l i)) with | some i => (i : Int) | none => -1
end Go.Mach.F
namespace Go.Mach.F
open Go Go.Mach Go.Proofs.Try
theorem wf_i64 {k : Int} (h : (Lit.int .i64 k).wf = true) : inI k := by
  unfold inI
  simp only [Lit.wf, Bool.and_eq_true, decide_eq_true_eq] at h
  have e1 : IntKind.i64.min = -9223372036854775808 := by decide
  have e2 : IntKind.i64.max = 9223372036854775807 := by decide
  rw [e1, e2] at h
  omega
theorem upI_sh {x : Wd} (hh : ShTs x.cs shWd) : upI x.l := fun y hy => by
  obtain ⟨j, hj, e⟩ := List.getElem_of_mem hy
  have h9 := hh.2.2.2.2.2.2.2.2.2.1
  obtain ⟨ss, e1, _, _, h1, _⟩ := h9
  cases e1
  have h2 := h1 j hj 3 (.int .i64) rfl
  rw [show (atL Nd.cs x.l j 3) = T.int .i64 y.up from by rw [atL_of (List.getElem?_eq_getElem hj), e]; rfl] at h2
  exact wf_i64 h2.2
end Go.Mach.F
namespace Go.Mach.F
open Go Go.Mach Go.Proofs.Try
--=set_option maxRecDepth 100000
def ok_ToWd (x : Wd) : Prop := ok_LB x.p.mem ∧ ok_LI x.p.st ∧ ok_LI x.p.own ∧ ok_NdS x.l ∧ ok_WsS x.q ∧ ok_LI x.log
def ea_ToWd (x : Wd) : List Arg := [aR x.cs]
def f_ToWd (x : Wd) : Wd := x
noncomputable def e_ToWd : Ent := ent [] ok_ToWd ea_ToWd (fun l => erR 1 l.cs) f_ToWd
theorem ea_ToWd_inj (x y : Wd) (h : ea_ToWd x = ea_ToWd y) : x = y := by
  simp only [ea_ToWd, List.cons.injEq, and_true, true_and] at h
  exact Wd.cs_ext (aR_inj h)
theorem dm_ToWd {l : Wd} (h : ok_ToWd l) : dom ok_ToWd ea_ToWd [(0, true, [C.tr false (T.int IntKind.i64 l.c.chunks), C.tr false (T.int IntKind.i64 l.c.size), C.tr false (T.int IntKind.i64 l.c.slots), C.tr false (T.int IntKind.i64 l.c.tax), C.tr false (T.int IntKind.i64 l.c.slice), C.tr false (T.int IntKind.i64 l.c.gens), C.tr false (T.arr 1 l.p.mem.length (atL rowB l.p.mem)), C.tr false (T.arr 1 l.p.st.length (atL rowI l.p.st)), C.tr false (T.arr 1 l.p.own.length (atL rowI l.p.own)), C.tr false (T.arr 13 l.l.length (atL Nd.cs l.l)), C.tr false (T.arr 5 l.q.length (atL Ws.cs l.q)), C.tr false (T.arr 1 l.log.length (atL rowI l.log))])] = true := dom_ea (ea := ea_ToWd) (x := l) h
theorem iv_ToWd {l : Wd} (h : ok_ToWd l) : inv ok_ToWd ea_ToWd [(0, true, [C.tr false (T.int IntKind.i64 l.c.chunks), C.tr false (T.int IntKind.i64 l.c.size), C.tr false (T.int IntKind.i64 l.c.slots), C.tr false (T.int IntKind.i64 l.c.tax), C.tr false (T.int IntKind.i64 l.c.slice), C.tr false (T.int IntKind.i64 l.c.gens), C.tr false (T.arr 1 l.p.mem.length (atL rowB l.p.mem)), C.tr false (T.arr 1 l.p.st.length (atL rowI l.p.st)), C.tr false (T.arr 1 l.p.own.length (atL rowI l.p.own)), C.tr false (T.arr 13 l.l.length (atL Nd.cs l.l)), C.tr false (T.arr 5 l.q.length (atL Ws.cs l.q)), C.tr false (T.arr 1 l.log.length (atL rowI l.log))])] = l := inv_ea ea_ToWd_inj (x := l) h
theorem d_ToWd (l : Wd) : f_ToWd l = l := rfl
def i_ToWd : Nat := 22
noncomputable abbrev F_ToWd : Func := f22
def kp_ToWd : List (Nat × List Nat) := [(0, [4, 5, 8, 9, 12, 13, 96]), (1, [4, 5, 8, 9, 12, 13, 96]), (2, [4, 5, 8, 9, 12, 13, 96]), (3, [4, 5, 8, 9, 12, 13, 96]), (4, [4, 5, 8, 9, 12, 13, 96]), (5, [4, 5, 8, 9, 12, 13, 96]), (6, [8, 9, 12, 13, 96]), (7, [8, 9, 12, 13, 96])]
theorem pre_ToWd (l : Wd) (n : Nat) : body prog (tabS [(i_toCf, e_toCf), (i_toPl, e_toPl), (i_toNdS, e_toNdS), (i_toWsS, e_toWsS), (i_toLI, e_toLI)]) kp_ToWd n F_ToWd [aR l.cs] = (
 gd (dom ok_LB ea_LB [(0, false, [C.tr false (eL 1 rowB l.p.1)])]) <|
 gd ((inv ok_LB ea_LB [(0, false, [C.tr false (eL 1 rowB l.p.1)])]).length.ble
    (inv ok_LB ea_LB [(0, false, [C.tr false (eL 1 rowB l.p.1)])]).length &&
  true) <|
 gd (dom ok_LI ea_LI [(0, false, [C.tr false (eL 1 rowI l.p.2)])]) <|
 gd ((inv ok_LI ea_LI [(0, false, [C.tr false (eL 1 rowI l.p.2)])]).length.ble
    (inv ok_LI ea_LI [(0, false, [C.tr false (eL 1 rowI l.p.2)])]).length &&
  true) <|
 gd (dom ok_LI ea_LI [(0, false, [C.tr false (eL 1 rowI l.p.3)])]) <|
 gd ((inv ok_LI ea_LI [(0, false, [C.tr false (eL 1 rowI l.p.3)])]).length.ble
    (inv ok_LI ea_LI [(0, false, [C.tr false (eL 1 rowI l.p.3)])]).length &&
  true) <|
 gd ((inv ok_LB ea_LB [(0, false, [C.tr false (eL 1 rowB l.p.1)])]).length.ble
    (inv ok_LB ea_LB [(0, false, [C.tr false (eL 1 rowB l.p.1)])]).length &&
  true) <|
 gd ((inv ok_LI ea_LI [(0, false, [C.tr false (eL 1 rowI l.p.2)])]).length.ble
    (inv ok_LI ea_LI [(0, false, [C.tr false (eL 1 rowI l.p.2)])]).length &&
  true) <|
 gd ((inv ok_LI ea_LI [(0, false, [C.tr false (eL 1 rowI l.p.3)])]).length.ble
    (inv ok_LI ea_LI [(0, false, [C.tr false (eL 1 rowI l.p.3)])]).length &&
  true) <|
 gd ((inv ok_LB ea_LB [(0, false, [C.tr false (eL 1 rowB l.p.1)])]).length.ble
    (inv ok_LB ea_LB [(0, false, [C.tr false (eL 1 rowB l.p.1)])]).length &&
  true) <|
 gd ((inv ok_LI ea_LI [(0, false, [C.tr false (eL 1 rowI l.p.2)])]).length.ble
    (inv ok_LI ea_LI [(0, false, [C.tr false (eL 1 rowI l.p.2)])]).length &&
  true) <|
 gd ((inv ok_LI ea_LI [(0, false, [C.tr false (eL 1 rowI l.p.3)])]).length.ble
    (inv ok_LI ea_LI [(0, false, [C.tr false (eL 1 rowI l.p.3)])]).length &&
  true) <|
 gd ((inv ok_LB ea_LB [(0, false, [C.tr false (eL 1 rowB l.p.1)])]).length.ble
    (inv ok_LB ea_LB [(0, false, [C.tr false (eL 1 rowB l.p.1)])]).length &&
  true) <|
 gd ((inv ok_LI ea_LI [(0, false, [C.tr false (eL 1 rowI l.p.2)])]).length.ble
    (inv ok_LI ea_LI [(0, false, [C.tr false (eL 1 rowI l.p.2)])]).length &&
  true) <|
 gd ((inv ok_LI ea_LI [(0, false, [C.tr false (eL 1 rowI l.p.3)])]).length.ble
    (inv ok_LI ea_LI [(0, false, [C.tr false (eL 1 rowI l.p.3)])]).length &&
  true) <|
 gd (dom ok_NdS ea_NdS [(0, false, [C.tr false (eL 13 Nd.cs l.3)])]) <|
 gd ((inv ok_NdS ea_NdS [(0, false, [C.tr false (eL 13 Nd.cs l.3)])]).length.ble
    (inv ok_NdS ea_NdS [(0, false, [C.tr false (eL 13 Nd.cs l.3)])]).length &&
  true) <|
 gd (dom ok_WsS ea_WsS [(0, false, [C.tr false (eL 5 Ws.cs l.4)])]) <|
 gd ((inv ok_WsS ea_WsS [(0, false, [C.tr false (eL 5 Ws.cs l.4)])]).length.ble
    (inv ok_WsS ea_WsS [(0, false, [C.tr false (eL 5 Ws.cs l.4)])]).length &&
  true) <|
 gd (dom ok_LI ea_LI [(0, false, [C.tr false (eL 1 rowI l.5)])]) <|
 gd ((inv ok_LI ea_LI [(0, false, [C.tr false (eL 1 rowI l.5)])]).length.ble
    (inv ok_LI ea_LI [(0, false, [C.tr false (eL 1 rowI l.5)])]).length &&
  true) <|
 gd ((inv ok_LB ea_LB [(0, false, [C.tr false (eL 1 rowB l.p.1)])]).length.ble
    (inv ok_LB ea_LB [(0, false, [C.tr false (eL 1 rowB l.p.1)])]).length &&
  true) <|
 gd ((inv ok_LI ea_LI [(0, false, [C.tr false (eL 1 rowI l.p.2)])]).length.ble
    (inv ok_LI ea_LI [(0, false, [C.tr false (eL 1 rowI l.p.2)])]).length &&
  true) <|
 gd ((inv ok_LI ea_LI [(0, false, [C.tr false (eL 1 rowI l.p.3)])]).length.ble
    (inv ok_LI ea_LI [(0, false, [C.tr false (eL 1 rowI l.p.3)])]).length &&
  true) <|
 gd ((inv ok_NdS ea_NdS [(0, false, [C.tr false (eL 13 Nd.cs l.3)])]).length.ble
    (inv ok_NdS ea_NdS [(0, false, [C.tr false (eL 13 Nd.cs l.3)])]).length &&
  true) <|
 gd ((inv ok_WsS ea_WsS [(0, false, [C.tr false (eL 5 Ws.cs l.4)])]).length.ble
    (inv ok_WsS ea_WsS [(0, false, [C.tr false (eL 5 Ws.cs l.4)])]).length &&
  true) <|
 gd ((inv ok_LI ea_LI [(0, false, [C.tr false (eL 1 rowI l.5)])]).length.ble
    (inv ok_LI ea_LI [(0, false, [C.tr false (eL 1 rowI l.5)])]).length &&
  true) <|
 gd ((inv ok_LB ea_LB [(0, false, [C.tr false (eL 1 rowB l.p.1)])]).length.ble
    (inv ok_LB ea_LB [(0, false, [C.tr false (eL 1 rowB l.p.1)])]).length &&
  true) <|
 gd ((inv ok_LI ea_LI [(0, false, [C.tr false (eL 1 rowI l.p.2)])]).length.ble
    (inv ok_LI ea_LI [(0, false, [C.tr false (eL 1 rowI l.p.2)])]).length &&
  true) <|
 gd ((inv ok_LI ea_LI [(0, false, [C.tr false (eL 1 rowI l.p.3)])]).length.ble
    (inv ok_LI ea_LI [(0, false, [C.tr false (eL 1 rowI l.p.3)])]).length &&
  true) <|
 gd ((inv ok_NdS ea_NdS [(0, false, [C.tr false (eL 13 Nd.cs l.3)])]).length.ble
    (inv ok_NdS ea_NdS [(0, false, [C.tr false (eL 13 Nd.cs l.3)])]).length &&
  true) <|
 gd ((inv ok_WsS ea_WsS [(0, false, [C.tr false (eL 5 Ws.cs l.4)])]).length.ble
    (inv ok_WsS ea_WsS [(0, false, [C.tr false (eL 5 Ws.cs l.4)])]).length &&
  true) <|
 gd ((inv ok_LI ea_LI [(0, false, [C.tr false (eL 1 rowI l.5)])]).length.ble
    (inv ok_LI ea_LI [(0, false, [C.tr false (eL 1 rowI l.5)])]).length &&
  true) <|
 some ([(true, [.tr true (T.int IntKind.i64 l.c.1), .tr true (T.int IntKind.i64 l.c.2), .tr true (T.int IntKind.i64 l.c.3), .tr true (T.int IntKind.i64 l.c.4), .tr true (T.int IntKind.i64 l.c.5), .tr true (T.int IntKind.i64 l.c.6), .tr true (.arr (1) ((inv ok_LB ea_LB [(0, false, [C.tr false (eL 1 rowB l.p.1)])]).length) (atL rowB (inv ok_LB ea_LB [(0, false, [C.tr false (eL 1 rowB l.p.1)])]))), .tr true (.arr (1) ((inv ok_LI ea_LI [(0, false, [C.tr false (eL 1 rowI l.p.2)])]).length) (atL rowI (inv ok_LI ea_LI [(0, false, [C.tr false (eL 1 rowI l.p.2)])]))), .tr true (.arr (1) ((inv ok_LI ea_LI [(0, false, [C.tr false (eL 1 rowI l.p.3)])]).length) (atL rowI (inv ok_LI ea_LI [(0, false, [C.tr false (eL 1 rowI l.p.3)])]))), .tr true (.arr (13) ((inv ok_NdS ea_NdS [(0, false, [C.tr false (eL 13 Nd.cs l.3)])]).length) ((eL 13 Nd.cs (inv ok_NdS ea_NdS [(0, false, [C.tr false (eL 13 Nd.cs l.3)])])).fn)), .tr true (.arr (5) ((inv ok_WsS ea_WsS [(0, false, [C.tr false (eL 5 Ws.cs l.4)])]).length) ((eL 5 Ws.cs (inv ok_WsS ea_WsS [(0, false, [C.tr false (eL 5 Ws.cs l.4)])])).fn)), .tr true (.arr (1) ((inv ok_LI ea_LI [(0, false, [C.tr false (eL 1 rowI l.5)])]).length) (atL rowI (inv ok_LI ea_LI [(0, false, [C.tr false (eL 1 rowI l.5)])])))])], [(false, [])])) := by kernel_rfl
theorem body_ToWd (l : Wd) (n : Nat) (h : ok_ToWd l) : body prog (tabS [(i_toCf, e_toCf), (i_toPl, e_toPl), (i_toNdS, e_toNdS), (i_toWsS, e_toWsS), (i_toLI, e_toLI)]) kp_ToWd n F_ToWd (ea_ToWd l) = some (erR 1 l.cs) := by
  have h0 : ok_LB l.p.mem := h.1
  have h1 : ok_LI l.p.st := h.2.1
  have h2 : ok_LI l.p.own := h.2.2.1
  have h3 : ok_NdS l.l := h.2.2.2.1
  have h4 : ok_WsS l.q := h.2.2.2.2.1
  have h5 : ok_LI l.log := h.2.2.2.2.2
  unfold ea_ToWd
  rw [pre_ToWd]
  simp only [lt_d, ge0_d, Int.toNat_natCast, blt_d, ble_self, beq_self, decide_true, cond_true, Bool.and_self, Bool.and_true, Bool.true_and, gd_true, Nat.zero_add, List.getD_cons_zero, List.getD_cons_succ, isI_int, toI_int, isB_bool, toB_bool, eL_T, arr_ln, arr_fn, arr_wd, arr_is, arr_get, Wd.cs, dm_toLB h0, iv_toLB h0, dm_toLI h1, iv_toLI h1, dm_toLI h2, iv_toLI h2, dm_toNdS h3, iv_toNdS h3, dm_toWsS h4, iv_toWsS h4, dm_toLI h5, iv_toLI h5, cut_all]
  rfl
theorem s_ToWd : EntOk prog i_ToWd e_ToWd := ent_ok ea_ToWd_inj fun x hx =>
  body_sound (φ := (tabS [(i_toCf, e_toCf), (i_toPl, e_toPl), (i_toNdS, e_toNdS), (i_toWsS, e_toWsS), (i_toLI, e_toLI)])) (tabS_cons s_toCf (tabS_cons s_toPl (tabS_cons s_toNdS (tabS_cons s_toWsS (tabS_cons s_toLI tabS_nil))))) mixed (kp := kp_ToWd) (n := 0) func22 (c := bodyOf F_ToWd) (by kernel_rfl) (body_ToWd x 0 hx) (name_ok (by kernel_rfl))
def okq_Wd (l : Wd) : Prop := okq_LB l.p.mem ∧ okq_LI l.p.st ∧ okq_LI l.p.own ∧ okq_NdS l.l ∧ okq_WsS l.q ∧ okq_LI l.log
def n_Wd (l : Wd) : Nat := n_LB l.p.mem + n_LI l.p.st + n_LI l.p.own + n_NdS l.l + n_WsS l.q + n_LI l.log
def ok_SzWd (x : Wd × Int) : Prop := z_Wd x.1 ∧ 0 ≤ x.2 ∧ x.2 ≤ LM
def ea_SzWd (x : Wd × Int) : List Arg := [aR x.1.cs, aI x.2]
def f_SzWd (x : Wd × Int) : Int := if (n_Wd x.1 : Int) ≤ x.2 then x.2 - n_Wd x.1 else -1
noncomputable def e_SzWd : Ent := ent [] ok_SzWd ea_SzWd (erI 2) f_SzWd
theorem ea_SzWd_inj (x y : Wd × Int) (h : ea_SzWd x = ea_SzWd y) : x = y := by
  obtain ⟨l1, k1⟩ := x
  obtain ⟨l2, k2⟩ := y
  simp only [ea_SzWd, List.cons.injEq, and_true, true_and] at h
  obtain ⟨e0, e1⟩ := h
  obtain rfl := Wd.cs_ext (aR_inj e0)
  obtain rfl := aI_inj e1
  rfl
theorem dm_SzWd {l : Wd} {k : Int} (h : ok_SzWd (l, k)) : dom ok_SzWd ea_SzWd [(0, true, [C.tr false (T.int IntKind.i64 l.c.chunks), C.tr false (T.int IntKind.i64 l.c.size), C.tr false (T.int IntKind.i64 l.c.slots), C.tr false (T.int IntKind.i64 l.c.tax), C.tr false (T.int IntKind.i64 l.c.slice), C.tr false (T.int IntKind.i64 l.c.gens), C.tr false (T.arr 1 l.p.mem.length (atL rowB l.p.mem)), C.tr false (T.arr 1 l.p.st.length (atL rowI l.p.st)), C.tr false (T.arr 1 l.p.own.length (atL rowI l.p.own)), C.tr false (T.arr 13 l.l.length (atL Nd.cs l.l)), C.tr false (T.arr 5 l.q.length (atL Ws.cs l.q)), C.tr false (T.arr 1 l.log.length (atL rowI l.log))]), (0, false, [C.tr false (T.int IntKind.i64 k)])] = true := dom_ea (ea := ea_SzWd) (x := (l, k)) h
theorem iv_SzWd {l : Wd} {k : Int} (h : ok_SzWd (l, k)) : inv ok_SzWd ea_SzWd [(0, true, [C.tr false (T.int IntKind.i64 l.c.chunks), C.tr false (T.int IntKind.i64 l.c.size), C.tr false (T.int IntKind.i64 l.c.slots), C.tr false (T.int IntKind.i64 l.c.tax), C.tr false (T.int IntKind.i64 l.c.slice), C.tr false (T.int IntKind.i64 l.c.gens), C.tr false (T.arr 1 l.p.mem.length (atL rowB l.p.mem)), C.tr false (T.arr 1 l.p.st.length (atL rowI l.p.st)), C.tr false (T.arr 1 l.p.own.length (atL rowI l.p.own)), C.tr false (T.arr 13 l.l.length (atL Nd.cs l.l)), C.tr false (T.arr 5 l.q.length (atL Ws.cs l.q)), C.tr false (T.arr 1 l.log.length (atL rowI l.log))]), (0, false, [C.tr false (T.int IntKind.i64 k)])] = (l, k) := inv_ea ea_SzWd_inj (x := (l, k)) h
def i_SzWd : Nat := 20
noncomputable abbrev F_SzWd : Func := f20
def kp_SzWd : List (Nat × List Nat) := [(0, [4, 8, 9]), (1, [4, 8, 9]), (2, [4, 8, 9, 40]), (3, [16]), (4, [4, 8, 9]), (5, [4, 8, 9, 64]), (6, [16]), (7, [4, 8, 9]), (8, [4, 8, 9, 88]), (9, [16]), (10, [4]), (11, [4, 112]), (12, [16]), (13, [16])]
theorem pre_SzWd (l : Wd) (k : Int) (n : Nat) : body prog (tabS [(i_szPl, e_szPl), (i_szNdS, e_szNdS), (i_szWsS, e_szWsS), (i_szLI, e_szLI)]) kp_SzWd n F_SzWd [aR l.cs, aI k] = (
 bif decide (IntKind.i64.wrap (k - (↑l.p.1.length : Int)) < 0) then
  some ([(false, [.tr true (T.int IntKind.i64 (-1))])], [(false, []), (false, [])])
 else
 bif decide (IntKind.i64.wrap (k - (↑l.p.1.length : Int)) < 0) then
  some ([(false, [.tr true (T.int IntKind.i64 (-1))])], [(false, []), (false, [])])
 else
 bif decide (IntKind.i64.wrap (IntKind.i64.wrap (k - (↑l.p.1.length : Int)) - (↑l.p.2.length : Int)) < 0) then
  some ([(false, [.tr true (T.int IntKind.i64 (-1))])], [(false, []), (false, [])])
 else
 bif decide (IntKind.i64.wrap (IntKind.i64.wrap (k - (↑l.p.1.length : Int)) - (↑l.p.2.length : Int)) < 0) then
  some ([(false, [.tr true (T.int IntKind.i64 (-1))])], [(false, []), (false, [])])
 else
 bif decide
  (IntKind.i64.wrap
      (IntKind.i64.wrap (IntKind.i64.wrap (k - (↑l.p.1.length : Int)) - (↑l.p.2.length : Int)) -
        (↑l.p.3.length : Int)) <
    0) then
  some ([(false, [.tr true (T.int IntKind.i64 (-1))])], [(false, []), (false, [])])
 else
 bif decide
  (IntKind.i64.wrap
      (IntKind.i64.wrap (IntKind.i64.wrap (k - (↑l.p.1.length : Int)) - (↑l.p.2.length : Int)) -
        (↑l.p.3.length : Int)) <
    0) then
  some ([(false, [.tr true (T.int IntKind.i64 (-1))])], [(false, []), (false, [])])
 else
 bif decide
  (IntKind.i64.wrap
      (IntKind.i64.wrap (IntKind.i64.wrap (k - (↑l.p.1.length : Int)) - (↑l.p.2.length : Int)) -
        (↑l.p.3.length : Int)) <
    0) then
  some ([(false, [.tr true (T.int IntKind.i64 (-1))])], [(false, []), (false, [])])
 else
 gd (dom okzz_NdS eaz_NdS
  [(0, false, [C.tr false (eL 13 Nd.cs l.3)]),
    (0, false,
      [C.tr false
          (T.int IntKind.i64
            (IntKind.i64.wrap
              (IntKind.i64.wrap (IntKind.i64.wrap (k - (↑l.p.1.length : Int)) - (↑l.p.2.length : Int)) -
                (↑l.p.3.length : Int))))])]) <|
 bif decide
  (f_szNdS
      (inv okzz_NdS eaz_NdS
        [(0, false, [C.tr false (eL 13 Nd.cs l.3)]),
          (0, false,
            [C.tr false
                (T.int IntKind.i64
                  (IntKind.i64.wrap
                    (IntKind.i64.wrap (IntKind.i64.wrap (k - (↑l.p.1.length : Int)) - (↑l.p.2.length : Int)) -
                      (↑l.p.3.length : Int))))])]) <
    0) then
  some ([(false, [.tr true (T.int IntKind.i64 (-1))])], [(false, []), (false, [])])
 else
 gd (dom okzz_WsS eaz_WsS
  [(0, false, [C.tr false (eL 5 Ws.cs l.4)]),
    (0, false,
      [C.tr false
          (T.int IntKind.i64
            (f_szNdS
              (inv okzz_NdS eaz_NdS
                [(0, false, [C.tr false (eL 13 Nd.cs l.3)]),
                  (0, false,
                    [C.tr false
                        (T.int IntKind.i64
                          (IntKind.i64.wrap
                            (IntKind.i64.wrap
                                (IntKind.i64.wrap (k - (↑l.p.1.length : Int)) - (↑l.p.2.length : Int)) -
                              (↑l.p.3.length : Int))))])])))])]) <|
 bif decide
  (f_szWsS
      (inv okzz_WsS eaz_WsS
        [(0, false, [C.tr false (eL 5 Ws.cs l.4)]),
          (0, false,
            [C.tr false
                (T.int IntKind.i64
                  (f_szNdS
                    (inv okzz_NdS eaz_NdS
                      [(0, false, [C.tr false (eL 13 Nd.cs l.3)]),
                        (0, false,
                          [C.tr false
                              (T.int IntKind.i64
                                (IntKind.i64.wrap
                                  (IntKind.i64.wrap
                                      (IntKind.i64.wrap (k - (↑l.p.1.length : Int)) - (↑l.p.2.length : Int)) -
                                    (↑l.p.3.length : Int))))])])))])]) <
    0) then
  some ([(false, [.tr true (T.int IntKind.i64 (-1))])], [(false, []), (false, [])])
 else
 bif decide
  (IntKind.i64.wrap
      (f_szWsS
          (inv okzz_WsS eaz_WsS
            [(0, false, [C.tr false (eL 5 Ws.cs l.4)]),
              (0, false,
                [C.tr false
                    (T.int IntKind.i64
                      (f_szNdS
                        (inv okzz_NdS eaz_NdS
                          [(0, false, [C.tr false (eL 13 Nd.cs l.3)]),
                            (0, false,
                              [C.tr false
                                  (T.int IntKind.i64
                                    (IntKind.i64.wrap
                                      (IntKind.i64.wrap
                                          (IntKind.i64.wrap (k - (↑l.p.1.length : Int)) - (↑l.p.2.length : Int)) -
                                        (↑l.p.3.length : Int))))])])))])]) -
        (↑l.5.length : Int)) <
    0) then
  some ([(false, [.tr true (T.int IntKind.i64 (-1))])], [(false, []), (false, [])])
 else
 bif decide
  (IntKind.i64.wrap
      (f_szWsS
          (inv okzz_WsS eaz_WsS
            [(0, false, [C.tr false (eL 5 Ws.cs l.4)]),
              (0, false,
                [C.tr false
                    (T.int IntKind.i64
                      (f_szNdS
                        (inv okzz_NdS eaz_NdS
                          [(0, false, [C.tr false (eL 13 Nd.cs l.3)]),
                            (0, false,
                              [C.tr false
                                  (T.int IntKind.i64
                                    (IntKind.i64.wrap
                                      (IntKind.i64.wrap
                                          (IntKind.i64.wrap (k - (↑l.p.1.length : Int)) - (↑l.p.2.length : Int)) -
                                        (↑l.p.3.length : Int))))])])))])]) -
        (↑l.5.length : Int)) <
    0) then
  some ([(false, [.tr true (T.int IntKind.i64 (-1))])], [(false, []), (false, [])])
 else
 some ([(false, [.tr true (T.int IntKind.i64
  (IntKind.i64.wrap
    (f_szWsS
        (inv okzz_WsS eaz_WsS
          [(0, false, [C.tr false (eL 5 Ws.cs l.4)]),
            (0, false,
              [C.tr false
                  (T.int IntKind.i64
                    (f_szNdS
                      (inv okzz_NdS eaz_NdS
                        [(0, false, [C.tr false (eL 13 Nd.cs l.3)]),
                          (0, false,
                            [C.tr false
                                (T.int IntKind.i64
                                  (IntKind.i64.wrap
                                    (IntKind.i64.wrap
                                        (IntKind.i64.wrap (k - (↑l.p.1.length : Int)) - (↑l.p.2.length : Int)) -
                                      (↑l.p.3.length : Int))))])])))])]) -
      (↑l.5.length : Int))))])], [(false, []), (false, [])])) := by kernel_rfl
theorem body_SzWd (l : Wd) (k : Int) (n : Nat) (h : ok_SzWd (l, k)) : body prog (tabS [(i_szPl, e_szPl), (i_szNdS, e_szNdS), (i_szWsS, e_szWsS), (i_szLI, e_szLI)]) kp_SzWd n F_SzWd (ea_SzWd (l, k)) = some (erI 2 (f_SzWd (l, k))) := by
  have hzm := zm
  have hlm := lm
  obtain ⟨hz, hk0, hk1⟩ := h
  dsimp only at hz hk0 hk1
  have z0 : okz_LB l.p.mem := hz.1
  have z1 : okz_LI l.p.st := hz.2.1
  have z2 : okz_LI l.p.own := hz.2.2.1
  have z3 : okz_NdS l.l := hz.2.2.2.1
  have z4 : okz_WsS l.q := hz.2.2.2.2.1
  have z5 : okz_LI l.log := hz.2.2.2.2.2
  have hn : n_Wd l = l.p.mem.length + l.p.st.length + l.p.own.length + n_NdS l.l + n_WsS l.q + l.log.length := rfl
  unfold ea_SzWd f_SzWd
  dsimp only
  rw [pre_SzWd]
  have y0 : l.p.mem.length ≤ ZM := z0
  try simp (disch := omega) only [wrapI]
  by_cases e0 : k - (l.p.mem.length : Int) < 0
  · rw [if_neg (by omega)]
    simp only [decide_eq_true e0, cond_true]
    rfl
  simp (disch := omega) only [decide_eq_false e0, cond_false, wrapI]
  have y1 : l.p.st.length ≤ ZM := z1
  try simp (disch := omega) only [wrapI]
  by_cases e1 : k - (l.p.mem.length : Int) - (l.p.st.length : Int) < 0
  · rw [if_neg (by omega)]
    simp only [decide_eq_true e1, cond_true]
    rfl
  simp (disch := omega) only [decide_eq_false e1, cond_false, wrapI]
  have y2 : l.p.own.length ≤ ZM := z2
  try simp (disch := omega) only [wrapI]
  by_cases e2 : k - (l.p.mem.length : Int) - (l.p.st.length : Int) - (l.p.own.length : Int) < 0
  · rw [if_neg (by omega)]
    simp only [decide_eq_true e2, cond_true]
    rfl
  simp (disch := omega) only [decide_eq_false e2, cond_false, wrapI]
  have y3 : okzz_NdS (l.l, k - (l.p.mem.length : Int) - (l.p.st.length : Int) - (l.p.own.length : Int)) := ⟨z3, by dsimp only; omega, by dsimp only; omega⟩
  simp only [lt_d, ge0_d, Int.toNat_natCast, blt_d, ble_self, beq_self, decide_true, cond_true, Bool.and_self, Bool.and_true, Bool.true_and, gd_true, Nat.zero_add, List.getD_cons_zero, List.getD_cons_succ, isI_int, toI_int, isB_bool, toB_bool, eL_T, arr_ln, arr_fn, arr_wd, arr_is, arr_get, Wd.cs, dm_szNdS y3, iv_szNdS y3]
  by_cases e3 : (n_NdS l.l : Int) ≤ k - (l.p.mem.length : Int) - (l.p.st.length : Int) - (l.p.own.length : Int)
  case neg =>
    simp only [n_szNdS e3]
    rw [if_neg (by omega)]
    simp only [decide_eq_true (show (-1 : Int) < 0 by omega), cond_true]
    rfl
  simp only [y_szNdS e3]
  simp (disch := omega) only [decide_eq_false (show ¬ k - (l.p.mem.length : Int) - (l.p.st.length : Int) - (l.p.own.length : Int) - (n_NdS l.l : Int) < 0 by omega), cond_false, wrapI]
  have y4 : okzz_WsS (l.q, k - (l.p.mem.length : Int) - (l.p.st.length : Int) - (l.p.own.length : Int) - (n_NdS l.l : Int)) := ⟨z4, by dsimp only; omega, by dsimp only; omega⟩
  simp only [lt_d, ge0_d, Int.toNat_natCast, blt_d, ble_self, beq_self, decide_true, cond_true, Bool.and_self, Bool.and_true, Bool.true_and, gd_true, Nat.zero_add, List.getD_cons_zero, List.getD_cons_succ, isI_int, toI_int, isB_bool, toB_bool, eL_T, arr_ln, arr_fn, arr_wd, arr_is, arr_get, Wd.cs, dm_szWsS y4, iv_szWsS y4]
  by_cases e4 : (n_WsS l.q : Int) ≤ k - (l.p.mem.length : Int) - (l.p.st.length : Int) - (l.p.own.length : Int) - (n_NdS l.l : Int)
  case neg =>
    simp only [n_szWsS e4]
    rw [if_neg (by omega)]
    simp only [decide_eq_true (show (-1 : Int) < 0 by omega), cond_true]
    rfl
  simp only [y_szWsS e4]
  simp (disch := omega) only [decide_eq_false (show ¬ k - (l.p.mem.length : Int) - (l.p.st.length : Int) - (l.p.own.length : Int) - (n_NdS l.l : Int) - (n_WsS l.q : Int) < 0 by omega), cond_false, wrapI]
  have y5 : l.log.length ≤ ZM := z5
  try simp (disch := omega) only [wrapI]
  by_cases e5 : k - (l.p.mem.length : Int) - (l.p.st.length : Int) - (l.p.own.length : Int) - (n_NdS l.l : Int) - (n_WsS l.q : Int) - (l.log.length : Int) < 0
  · rw [if_neg (by omega)]
    simp only [decide_eq_true e5, cond_true]
    rfl
  simp (disch := omega) only [decide_eq_false e5, cond_false, wrapI]
  rw [if_pos (by omega), show k - (n_Wd l : Int) = k - (l.p.mem.length : Int) - (l.p.st.length : Int) - (l.p.own.length : Int) - (n_NdS l.l : Int) - (n_WsS l.q : Int) - (l.log.length : Int) by omega]
  rfl
theorem s_SzWd : EntOk prog i_SzWd e_SzWd := ent_ok ea_SzWd_inj fun x hx =>
  body_sound (φ := (tabS [(i_szPl, e_szPl), (i_szNdS, e_szNdS), (i_szWsS, e_szWsS), (i_szLI, e_szLI)])) (tabS_cons s_szPl (tabS_cons s_szNdS (tabS_cons s_szWsS (tabS_cons s_szLI tabS_nil)))) mixed (kp := kp_SzWd) (n := 0) func20 (c := bodyOf F_SzWd) (by kernel_rfl) (body_SzWd x.1 x.2 (0) hx) (name_ok (by kernel_rfl))
theorem y_SzWd {l : Wd} {k : Int} (h : (n_Wd l : Int) ≤ k) : f_SzWd (l, k) = k - n_Wd l := if_pos h
theorem n_SzWd {l : Wd} {k : Int} (h : ¬ (n_Wd l : Int) ≤ k) : f_SzWd (l, k) = -1 := if_neg h
theorem okn_Wd {l : Wd} (h : (n_Wd l : Int) ≤ 1048576) : ok_ToWd l ∧ okq_Wd l := ⟨⟨(okn_LB (l := l.p.mem) (by have : n_Wd l = n_LB l.p.mem + n_LI l.p.st + n_LI l.p.own + n_NdS l.l + n_WsS l.q + n_LI l.log := rfl; omega)).1, (okn_LI (l := l.p.st) (by have : n_Wd l = n_LB l.p.mem + n_LI l.p.st + n_LI l.p.own + n_NdS l.l + n_WsS l.q + n_LI l.log := rfl; omega)).1, (okn_LI (l := l.p.own) (by have : n_Wd l = n_LB l.p.mem + n_LI l.p.st + n_LI l.p.own + n_NdS l.l + n_WsS l.q + n_LI l.log := rfl; omega)).1, (okn_NdS (l := l.l) (by have : n_Wd l = n_LB l.p.mem + n_LI l.p.st + n_LI l.p.own + n_NdS l.l + n_WsS l.q + n_LI l.log := rfl; omega)).1, (okn_WsS (l := l.q) (by have : n_Wd l = n_LB l.p.mem + n_LI l.p.st + n_LI l.p.own + n_NdS l.l + n_WsS l.q + n_LI l.log := rfl; omega)).1, (okn_LI (l := l.log) (by have : n_Wd l = n_LB l.p.mem + n_LI l.p.st + n_LI l.p.own + n_NdS l.l + n_WsS l.q + n_LI l.log := rfl; omega)).1⟩, ⟨(okn_LB (l := l.p.mem) (by have : n_Wd l = n_LB l.p.mem + n_LI l.p.st + n_LI l.p.own + n_NdS l.l + n_WsS l.q + n_LI l.log := rfl; omega)).2, (okn_LI (l := l.p.st) (by have : n_Wd l = n_LB l.p.mem + n_LI l.p.st + n_LI l.p.own + n_NdS l.l + n_WsS l.q + n_LI l.log := rfl; omega)).2, (okn_LI (l := l.p.own) (by have : n_Wd l = n_LB l.p.mem + n_LI l.p.st + n_LI l.p.own + n_NdS l.l + n_WsS l.q + n_LI l.log := rfl; omega)).2, (okn_NdS (l := l.l) (by have : n_Wd l = n_LB l.p.mem + n_LI l.p.st + n_LI l.p.own + n_NdS l.l + n_WsS l.q + n_LI l.log := rfl; omega)).2, (okn_WsS (l := l.q) (by have : n_Wd l = n_LB l.p.mem + n_LI l.p.st + n_LI l.p.own + n_NdS l.l + n_WsS l.q + n_LI l.log := rfl; omega)).2, (okn_LI (l := l.log) (by have : n_Wd l = n_LB l.p.mem + n_LI l.p.st + n_LI l.p.own + n_NdS l.l + n_WsS l.q + n_LI l.log := rfl; omega)).2⟩⟩
end Go.Mach.F
namespace Go.Mach.F
open Go Go.Mach Go.Proofs.Try
def ndx (l : List Nd) : Prop := ∀ x ∈ l, inI x.next ∧ inI x.first ∧ ∀ t ∈ x.things, inI t.len
theorem ndI_of {l : List Nd} (h : ok_NdS l) (hx : ndx l) : ndI l := fun x hm => ⟨(hx x hm).1, (hx x hm).2.1, (h.2 x hm).2.1.1, (hx x hm).2.2, (h.2 x hm).2.2⟩
theorem ndx_sh {x : Wd} (hh : ShTs x.cs shWd) : ndx x.l := fun y hy => by
  obtain ⟨j, hj, e⟩ := List.getElem_of_mem hy
  have h9 := hh.2.2.2.2.2.2.2.2.2.1
  obtain ⟨ss, e1, _, _, h1, _⟩ := h9
  cases e1
  have h2 := h1 j hj 6 (.int .i64) rfl
  rw [show (atL Nd.cs x.l j 6) = T.int .i64 y.next from by rw [atL_of (List.getElem?_eq_getElem hj), e]; rfl] at h2
  have h3 := h1 j hj 5 (.int .i64) rfl
  rw [show (atL Nd.cs x.l j 5) = T.int .i64 y.first from by rw [atL_of (List.getElem?_eq_getElem hj), e]; rfl] at h3
  have h4 := h1 j hj 11 _ rfl
  rw [show (atL Nd.cs x.l j 11) = T.arr 3 y.things.length (atL Th.cs y.things) from by rw [atL_of (List.getElem?_eq_getElem hj), e]; rfl] at h4
  refine ⟨wf_i64 h2.2, wf_i64 h3.2, fun t ht => ?_⟩
  obtain ⟨ss, e2, _, _, h5, _⟩ := h4
  cases e2
  obtain ⟨i, hi, e3⟩ := List.getElem_of_mem ht
  have h6 := h5 i hi 1 (.int .i64) rfl
  rw [show (atL Th.cs y.things i 1) = T.int .i64 t.len from by rw [atL_of (List.getElem?_eq_getElem hi), e3]; rfl] at h6
  exact wf_i64 h6.2
theorem gat_len (l : List UInt8) (k c : Int) : (gat l k c).1.length ≤ l.length := by
  unfold gat
  cases ((decide (0 ≤ c) && decide (c ≤ (l.length : Int))) && (decide (0 ≤ k) && decide (k ≤ (l.length : Int) - c))) with
  | true =>
    simp only [cond_true, List.length_take, List.length_drop]
    omega
  | false => exact Nat.zero_le _
theorem rdT_len (m : List UInt8) (t : Th) (o k : Int) : (rdT m t o k).1.length ≤ m.length := by
  unfold rdT
  cases (decide (0 ≤ o) && (decide (0 ≤ k) && decide (o + k ≤ t.len))) with
  | true => exact gat_len _ _ _
  | false => exact Nat.zero_le _
theorem cntL_bd {α : Type} {c : α → Nat} {B : Nat} : ∀ l : List α, (∀ x ∈ l, c x ≤ B) → cntL c l ≤ l.length * B
  | [], _ => by simp [cntL]
  | x :: l, h => by
    have h1 := cntL_bd l fun y hy => h y (List.mem_cons_of_mem _ hy)
    have h2 := h x List.mem_cons_self
    unfold cntL
    rw [List.length_cons, Nat.succ_mul]
    omega
theorem seenR_ok {w : Wd} {k : Int} (h : (n_Wd w : Int) ≤ 1048576) : (okq_HdS (seenR w k).kids ∧ okq_SfS (seenR w k).things ∧ okq_LI (seenR w k).tags) ∧ n_HdS (seenR w k).kids + n_SfS (seenR w k).things + n_LI (seenR w k).tags ≤ 1099514773504 := by
  have hbm := bm
  have hn : n_Wd w = w.p.mem.length + n_LI w.p.st + n_LI w.p.own + (w.l.length + cntL n1_NdS w.l) + n_WsS w.q + n_LI w.log := rfl
  unfold seenR
  by_cases h0 : 0 ≤ k ∧ k < (w.l.length : Int)
  · rw [decide_eq_true h0.1, decide_eq_true h0.2, Bool.and_self, cond_true]
    have hb : k.toNat < w.l.length := by omega
    have hx := cntL_mem n1_NdS (nd_in hb)
    obtain ⟨x, hxe⟩ : ∃ x, x = nd w.l k := ⟨_, rfl⟩
    rw [← hxe] at hx ⊢
    have hx1 : n1_NdS x = n_LI x.chunks + x.things.length + x.tags.length := rfl
    have hk := kidN_len (l := w.l) w.l.length x.first
    have hb1 : cntL n1_SfS (x.things.map fun t => (⟨(rdT w.p.mem t 0 t.len).1⟩ : Sf)) ≤ x.things.length * w.p.mem.length := by
      have := cntL_bd (c := n1_SfS) (B := w.p.mem.length) (x.things.map fun t => (⟨(rdT w.p.mem t 0 t.len).1⟩ : Sf)) fun y hy => by
        obtain ⟨t, _, rfl⟩ := List.mem_map.1 hy
        exact rdT_len _ _ _ _
      rwa [List.length_map] at this
    have hb2 : x.things.length * w.p.mem.length ≤ 1048576 * 1048576 := Nat.mul_le_mul (by omega) (by omega)
    refine ⟨⟨⟨?_, fun _ _ => trivial⟩, ⟨?_, fun y hy => ?_⟩, ?_⟩, ?_⟩
    · show ((kids w.l x.first).map (hdAt w.l)).length ≤ BM
      rw [List.length_map]
      unfold kids
      omega
    · show (x.things.map _).length ≤ BM
      rw [List.length_map]
      omega
    · obtain ⟨t, _, rfl⟩ := List.mem_map.1 hy
      have := rdT_len w.p.mem t 0 t.len
      show (rdT w.p.mem t 0 t.len).1.length ≤ BM
      omega
    · show x.tags.length ≤ BM
      omega
    · simp only [n_HdS, n_SfS, n_LI, List.length_map]
      have hk2 : (kids w.l x.first).length ≤ w.l.length := hk
      omega
  · have : (decide (0 ≤ k) && decide (k < (w.l.length : Int))) = false := by
      by_cases h1 : 0 ≤ k
      · rw [decide_eq_false (fun e => h0 ⟨h1, e⟩), Bool.and_false]
      · rw [decide_eq_false h1, Bool.false_and]
    rw [this, cond_false]
    exact ⟨⟨⟨Nat.zero_le _, fun _ _ => trivial⟩, ⟨Nat.zero_le _, fun _ hx => by cases hx⟩, Nat.zero_le _⟩, Nat.zero_le _⟩
end Go.Mach.F
namespace Go.Mach.F
open Go Go.Mach Go.Proofs.Try
--=set_option maxRecDepth 100000
def plc (l : List Nd) (h : Hd) : Int := bif (decide (0 ≤ h.slot) && decide (h.slot < (l.length : Int))) && (decide ((nd l h.slot).st = 1) && decide ((nd l h.slot).gen = h.gen)) then h.slot else -1
def fdR (w : Wd) (h : Hd) : Int × Int := bif hOk h then (bif decide (plc w.l h < 0) || !alv w.l (plc w.l h) then (-1, 2) else (plc w.l h, 0)) else (-1, 1)
def snA (w : Wd) (h : Hd) : Rm := seenR w (fdR w h).1
def ok_iPl (x : List Nd × Hd) : Prop := x.1.length ≤ LM ∧ inI x.2.slot
def ea_iPl (x : List Nd × Hd) : List Arg := [aT (eL 13 Nd.cs x.1), aR x.2.cs]
def f_iPl (x : List Nd × Hd) : Int := plc x.1 x.2
noncomputable def e_iPl : Ent := ent [] ok_iPl ea_iPl (erI 2) f_iPl
theorem ea_iPl_inj (x y : List Nd × Hd) (h : ea_iPl x = ea_iPl y) : x = y := by
  obtain ⟨l1, h1⟩ := x
  obtain ⟨l2, h2⟩ := y
  simp only [ea_iPl, List.cons.injEq, and_true, true_and] at h
  obtain ⟨e0, e1⟩ := h
  obtain rfl := eL_inj Nd.cs_inj (aT_inj e0)
  obtain rfl := Hd.cs_ext (aR_inj e1)
  rfl
theorem dm_iPl {l : List Nd} {h : Hd} (h0 : ok_iPl (l, h)) : dom ok_iPl ea_iPl [(0, false, [C.tr false (T.arr 13 l.length (atL Nd.cs l))]), (0, true, [C.tr false (T.int IntKind.i64 h.slot), C.tr false (T.int IntKind.i64 h.gen)])] = true := dom_ea (ea := ea_iPl) (x := (l, h)) h0
theorem iv_iPl {l : List Nd} {h : Hd} (h0 : ok_iPl (l, h)) : inv ok_iPl ea_iPl [(0, false, [C.tr false (T.arr 13 l.length (atL Nd.cs l))]), (0, true, [C.tr false (T.int IntKind.i64 h.slot), C.tr false (T.int IntKind.i64 h.gen)])] = (l, h) := inv_ea ea_iPl_inj (x := (l, h)) h0
theorem d_iPl (l : List Nd) (h : Hd) : f_iPl (l, h) = plc l h := rfl
def i_iPl : Nat := 150
noncomputable abbrev F_iPl : Func := f150
def kp_iPl : List (Nat × List Nat) := [(0, [0, 12, 13, 44, 48, 52, 56, 60, 64, 68, 80, 84, 88, 92, 96, 100, 104, 108, 112]), (1, [12, 13, 116]), (2, [16]), (3, [16])]
theorem pre_iPl (l : List Nd) (h : Hd) (n : Nat) : body prog (tabS [(i_isSlot, e_isSlot)]) kp_iPl n F_iPl [aT (eL 13 Nd.cs l), aR h.cs] = (
 bif decide (0 ≤ h.1) then
  bif !decide (h.1 ≤ IntKind.i64.wrap ((↑l.length : Int) - 1)) then
   some ([(false, [.tr true (T.int IntKind.i64 (-1))])], [(false, []), (false, [])])
  else
  gd (decide (0 ≤ h.1) && (h.1.toNat.blt l.length && true)) <|
  gd (T.isI IntKind.i64 (atL Nd.cs l h.1.toNat 0)) <|
  bif (atL Nd.cs l h.1.toNat 0).toI != 1 then
   some ([(false, [.tr true (T.int IntKind.i64 (-1))])], [(false, []), (false, [])])
  else
  gd (decide (0 ≤ h.1) && (h.1.toNat.blt l.length && true)) <|
  gd (T.isI IntKind.i64 (atL Nd.cs l h.1.toNat 1)) <|
  bif (atL Nd.cs l h.1.toNat 1).toI != h.2 then
   some ([(false, [.tr true (T.int IntKind.i64 (-1))])], [(false, []), (false, [])])
  else
  some ([(false, [.tr true (T.int IntKind.i64 h.1)])], [(false, []), (false, [])])
 else
 some ([(false, [.tr true (T.int IntKind.i64 (-1))])], [(false, []), (false, [])])) := by kernel_rfl
def ok_sPl (x : List Nd × Hd) : Prop := x.1.length ≤ LM ∧ inI x.2.slot
def ea_sPl (x : List Nd × Hd) : List Arg := [aT (eL 13 Nd.cs x.1), aR x.2.cs]
def f_sPl (x : List Nd × Hd) : Int := plc x.1 x.2
noncomputable def e_sPl : Ent := ent [] ok_sPl ea_sPl (erI 2) f_sPl
theorem ea_sPl_inj (x y : List Nd × Hd) (h : ea_sPl x = ea_sPl y) : x = y := by
  obtain ⟨l1, h1⟩ := x
  obtain ⟨l2, h2⟩ := y
  simp only [ea_sPl, List.cons.injEq, and_true, true_and] at h
  obtain ⟨e0, e1⟩ := h
  obtain rfl := eL_inj Nd.cs_inj (aT_inj e0)
  obtain rfl := Hd.cs_ext (aR_inj e1)
  rfl
theorem dm_sPl {l : List Nd} {h : Hd} (h0 : ok_sPl (l, h)) : dom ok_sPl ea_sPl [(0, false, [C.tr false (T.arr 13 l.length (atL Nd.cs l))]), (0, true, [C.tr false (T.int IntKind.i64 h.slot), C.tr false (T.int IntKind.i64 h.gen)])] = true := dom_ea (ea := ea_sPl) (x := (l, h)) h0
theorem iv_sPl {l : List Nd} {h : Hd} (h0 : ok_sPl (l, h)) : inv ok_sPl ea_sPl [(0, false, [C.tr false (T.arr 13 l.length (atL Nd.cs l))]), (0, true, [C.tr false (T.int IntKind.i64 h.slot), C.tr false (T.int IntKind.i64 h.gen)])] = (l, h) := inv_ea ea_sPl_inj (x := (l, h)) h0
theorem d_sPl (l : List Nd) (h : Hd) : f_sPl (l, h) = plc l h := rfl
def i_sPl : Nat := 148
noncomputable abbrev F_sPl : Func := f148
def kp_sPl : List (Nat × List Nat) := [(0, [0, 12, 13, 52, 56, 60, 64, 68, 72, 76, 88, 92, 96, 100, 104, 108, 112, 116, 120]), (1, [12, 13, 124]), (2, [16]), (3, [16])]
theorem pre_sPl (l : List Nd) (h : Hd) (n : Nat) : body prog (tabS [(i_l1In, e_l1In)]) kp_sPl n F_sPl [aT (eL 13 Nd.cs l), aR h.cs] = (
 bif decide (0 ≤ h.1) then
  bif !decide (h.1 ≤ IntKind.i64.wrap ((↑l.length : Int) - 1)) then
   some ([(false, [.tr true (T.int IntKind.i64 (-1))])], [(false, []), (false, [])])
  else
  gd (decide (0 ≤ h.1) && (h.1.toNat.blt l.length && true)) <|
  gd (T.isI IntKind.i64 (atL Nd.cs l h.1.toNat 0)) <|
  bif (atL Nd.cs l h.1.toNat 0).toI != 1 then
   some ([(false, [.tr true (T.int IntKind.i64 (-1))])], [(false, []), (false, [])])
  else
  gd (decide (0 ≤ h.1) && (h.1.toNat.blt l.length && true)) <|
  gd (T.isI IntKind.i64 (atL Nd.cs l h.1.toNat 1)) <|
  bif (atL Nd.cs l h.1.toNat 1).toI != h.2 then
   some ([(false, [.tr true (T.int IntKind.i64 (-1))])], [(false, []), (false, [])])
  else
  some ([(false, [.tr true (T.int IntKind.i64 h.1)])], [(false, []), (false, [])])
 else
 some ([(false, [.tr true (T.int IntKind.i64 (-1))])], [(false, []), (false, [])])) := by kernel_rfl
def ok_iFd (x : Wd × Hd) : Prop := x.1.l.length ≤ LM ∧ inI x.2.slot ∧ upI x.1.l
def ea_iFd (x : Wd × Hd) : List Arg := [aR x.1.cs, aR x.2.cs]
def f_iFd (x : Wd × Hd) : Int × Int := fdR x.1 x.2
noncomputable def e_iFd : Ent := ent [] ok_iFd ea_iFd (fun (x : Int × Int) => ([oT (.int .i64 x.1), oT (.int .i64 x.2)], [nul, nul])) f_iFd
theorem ea_iFd_inj (x y : Wd × Hd) (h : ea_iFd x = ea_iFd y) : x = y := by
  obtain ⟨w1, h1⟩ := x
  obtain ⟨w2, h2⟩ := y
  simp only [ea_iFd, List.cons.injEq, and_true, true_and] at h
  obtain ⟨e0, e1⟩ := h
  obtain rfl := Wd.cs_ext (aR_inj e0)
  obtain rfl := Hd.cs_ext (aR_inj e1)
  rfl
theorem dm_iFd {w : Wd} {h : Hd} (h0 : ok_iFd (w, h)) : dom ok_iFd ea_iFd [(0, true, [C.tr false (T.int IntKind.i64 w.c.chunks), C.tr false (T.int IntKind.i64 w.c.size), C.tr false (T.int IntKind.i64 w.c.slots), C.tr false (T.int IntKind.i64 w.c.tax), C.tr false (T.int IntKind.i64 w.c.slice), C.tr false (T.int IntKind.i64 w.c.gens), C.tr false (T.arr 1 w.p.mem.length (atL rowB w.p.mem)), C.tr false (T.arr 1 w.p.st.length (atL rowI w.p.st)), C.tr false (T.arr 1 w.p.own.length (atL rowI w.p.own)), C.tr false (T.arr 13 w.l.length (atL Nd.cs w.l)), C.tr false (T.arr 5 w.q.length (atL Ws.cs w.q)), C.tr false (T.arr 1 w.log.length (atL rowI w.log))]), (0, true, [C.tr false (T.int IntKind.i64 h.slot), C.tr false (T.int IntKind.i64 h.gen)])] = true := dom_ea (ea := ea_iFd) (x := (w, h)) h0
theorem iv_iFd {w : Wd} {h : Hd} (h0 : ok_iFd (w, h)) : inv ok_iFd ea_iFd [(0, true, [C.tr false (T.int IntKind.i64 w.c.chunks), C.tr false (T.int IntKind.i64 w.c.size), C.tr false (T.int IntKind.i64 w.c.slots), C.tr false (T.int IntKind.i64 w.c.tax), C.tr false (T.int IntKind.i64 w.c.slice), C.tr false (T.int IntKind.i64 w.c.gens), C.tr false (T.arr 1 w.p.mem.length (atL rowB w.p.mem)), C.tr false (T.arr 1 w.p.st.length (atL rowI w.p.st)), C.tr false (T.arr 1 w.p.own.length (atL rowI w.p.own)), C.tr false (T.arr 13 w.l.length (atL Nd.cs w.l)), C.tr false (T.arr 5 w.q.length (atL Ws.cs w.q)), C.tr false (T.arr 1 w.log.length (atL rowI w.log))]), (0, true, [C.tr false (T.int IntKind.i64 h.slot), C.tr false (T.int IntKind.i64 h.gen)])] = (w, h) := inv_ea ea_iFd_inj (x := (w, h)) h0
theorem d_iFd (w : Wd) (h : Hd) : f_iFd (w, h) = fdR w h := rfl
def i_iFd : Nat := 99
noncomputable abbrev F_iFd : Func := f99
def kp_iFd : List (Nat × List Nat) := [(0, [8, 9, 12, 13, 68, 72, 76, 80, 84]), (1, [8, 9, 12, 13, 36, 68, 72, 76, 80, 84]), (2, [16, 20]), (3, [8, 9, 24, 68, 72, 76, 80, 84]), (4, [24, 88]), (5, [16, 20]), (6, [16, 20])]
theorem pre_iFd (w : Wd) (h : Hd) (n : Nat) : body prog (tabS [(i_iHOk, e_iHOk), (i_iPl, e_iPl), (i_iAlive, e_iAlive)]) kp_iFd n F_iFd [aR w.cs, aR h.cs] = (
 bif decide (0 ≤ h.1) then
  bif !decide (1 ≤ h.2) then
   some ([(false, [.tr true (T.int IntKind.i64 (-1))]), (false, [.tr true (T.int IntKind.i64 1)])], [(false, []), (false, [])])
  else
  entK ok_iPl ea_iPl (f_iPl) [(0, false, [C.tr false (eL 13 Nd.cs w.3)]),
  (0, true, [C.tr false (T.int IntKind.i64 h.1), C.tr false (T.int IntKind.i64 h.2)])] fun (r1 : Int) =>
  bif decide (r1 < 0) then
   some ([(false, [.tr true (T.int IntKind.i64 (-1))]), (false, [.tr true (T.int IntKind.i64 2)])], [(false, []), (false, [])])
  else
  entK ok_iAlive ea_iAlive (f_iAlive) [(0, false, [C.tr false (eL 13 Nd.cs w.3)]), (0, false, [C.tr false (T.int IntKind.i64 r1)])] fun (r2 : Bool) =>
  bif !r2 then
   some ([(false, [.tr true (T.int IntKind.i64 (-1))]), (false, [.tr true (T.int IntKind.i64 2)])], [(false, []), (false, [])])
  else
  some ([(false, [.tr true (T.int IntKind.i64 r1)]), (false, [.tr true (T.int IntKind.i64 0)])], [(false, []), (false, [])])
 else
 some ([(false, [.tr true (T.int IntKind.i64 (-1))]), (false, [.tr true (T.int IntKind.i64 1)])], [(false, []), (false, [])])) := by kernel_rfl
def ok_sFd (x : Wd × Hd) : Prop := x.1.l.length ≤ LM ∧ inI x.2.slot ∧ upI x.1.l
def ea_sFd (x : Wd × Hd) : List Arg := [aR x.1.cs, aR x.2.cs]
def f_sFd (x : Wd × Hd) : Int × Int := fdR x.1 x.2
noncomputable def e_sFd : Ent := ent [] ok_sFd ea_sFd (fun (x : Int × Int) => ([oT (.int .i64 x.1), oT (.int .i64 x.2)], [nul, nul])) f_sFd
theorem ea_sFd_inj (x y : Wd × Hd) (h : ea_sFd x = ea_sFd y) : x = y := by
  obtain ⟨w1, h1⟩ := x
  obtain ⟨w2, h2⟩ := y
  simp only [ea_sFd, List.cons.injEq, and_true, true_and] at h
  obtain ⟨e0, e1⟩ := h
  obtain rfl := Wd.cs_ext (aR_inj e0)
  obtain rfl := Hd.cs_ext (aR_inj e1)
  rfl
theorem dm_sFd {w : Wd} {h : Hd} (h0 : ok_sFd (w, h)) : dom ok_sFd ea_sFd [(0, true, [C.tr false (T.int IntKind.i64 w.c.chunks), C.tr false (T.int IntKind.i64 w.c.size), C.tr false (T.int IntKind.i64 w.c.slots), C.tr false (T.int IntKind.i64 w.c.tax), C.tr false (T.int IntKind.i64 w.c.slice), C.tr false (T.int IntKind.i64 w.c.gens), C.tr false (T.arr 1 w.p.mem.length (atL rowB w.p.mem)), C.tr false (T.arr 1 w.p.st.length (atL rowI w.p.st)), C.tr false (T.arr 1 w.p.own.length (atL rowI w.p.own)), C.tr false (T.arr 13 w.l.length (atL Nd.cs w.l)), C.tr false (T.arr 5 w.q.length (atL Ws.cs w.q)), C.tr false (T.arr 1 w.log.length (atL rowI w.log))]), (0, true, [C.tr false (T.int IntKind.i64 h.slot), C.tr false (T.int IntKind.i64 h.gen)])] = true := dom_ea (ea := ea_sFd) (x := (w, h)) h0
theorem iv_sFd {w : Wd} {h : Hd} (h0 : ok_sFd (w, h)) : inv ok_sFd ea_sFd [(0, true, [C.tr false (T.int IntKind.i64 w.c.chunks), C.tr false (T.int IntKind.i64 w.c.size), C.tr false (T.int IntKind.i64 w.c.slots), C.tr false (T.int IntKind.i64 w.c.tax), C.tr false (T.int IntKind.i64 w.c.slice), C.tr false (T.int IntKind.i64 w.c.gens), C.tr false (T.arr 1 w.p.mem.length (atL rowB w.p.mem)), C.tr false (T.arr 1 w.p.st.length (atL rowI w.p.st)), C.tr false (T.arr 1 w.p.own.length (atL rowI w.p.own)), C.tr false (T.arr 13 w.l.length (atL Nd.cs w.l)), C.tr false (T.arr 5 w.q.length (atL Ws.cs w.q)), C.tr false (T.arr 1 w.log.length (atL rowI w.log))]), (0, true, [C.tr false (T.int IntKind.i64 h.slot), C.tr false (T.int IntKind.i64 h.gen)])] = (w, h) := inv_ea ea_sFd_inj (x := (w, h)) h0
theorem d_sFd (w : Wd) (h : Hd) : f_sFd (w, h) = fdR w h := rfl
def i_sFd : Nat := 98
noncomputable abbrev F_sFd : Func := f98
def kp_sFd : List (Nat × List Nat) := [(0, [8, 9, 12, 13, 68, 72, 76, 80, 84]), (1, [8, 9, 12, 13, 36, 68, 72, 76, 80, 84]), (2, [16, 20]), (3, [8, 9, 24, 68, 72, 76, 80, 84]), (4, [24, 88]), (5, [16, 20]), (6, [16, 20])]
theorem pre_sFd (w : Wd) (h : Hd) (n : Nat) : body prog (tabS [(i_sHOk, e_sHOk), (i_sPl, e_sPl), (i_sAlive, e_sAlive)]) kp_sFd n F_sFd [aR w.cs, aR h.cs] = (
 bif decide (0 ≤ h.1) then
  bif !decide (1 ≤ h.2) then
   some ([(false, [.tr true (T.int IntKind.i64 (-1))]), (false, [.tr true (T.int IntKind.i64 1)])], [(false, []), (false, [])])
  else
  entK ok_sPl ea_sPl (f_sPl) [(0, false, [C.tr false (eL 13 Nd.cs w.3)]),
  (0, true, [C.tr false (T.int IntKind.i64 h.1), C.tr false (T.int IntKind.i64 h.2)])] fun (r1 : Int) =>
  bif decide (r1 < 0) then
   some ([(false, [.tr true (T.int IntKind.i64 (-1))]), (false, [.tr true (T.int IntKind.i64 2)])], [(false, []), (false, [])])
  else
  entK ok_sAlive ea_sAlive (f_sAlive) [(0, false, [C.tr false (eL 13 Nd.cs w.3)]), (0, false, [C.tr false (T.int IntKind.i64 r1)])] fun (r2 : Bool) =>
  bif !r2 then
   some ([(false, [.tr true (T.int IntKind.i64 (-1))]), (false, [.tr true (T.int IntKind.i64 2)])], [(false, []), (false, [])])
  else
  some ([(false, [.tr true (T.int IntKind.i64 r1)]), (false, [.tr true (T.int IntKind.i64 0)])], [(false, []), (false, [])])
 else
 some ([(false, [.tr true (T.int IntKind.i64 (-1))]), (false, [.tr true (T.int IntKind.i64 1)])], [(false, []), (false, [])])) := by kernel_rfl
def ok_iSnAt (x : Wd × Hd) : Prop := x.1.l.length ≤ LM ∧ x.1.p.mem.length ≤ LM ∧ inI x.2.slot ∧ ndI x.1.l ∧ upI x.1.l
def ea_iSnAt (x : Wd × Hd) : List Arg := [aR x.1.cs, aR x.2.cs]
def f_iSnAt (x : Wd × Hd) : Rm := snA x.1 x.2
noncomputable def e_iSnAt : Ent := ent [] ok_iSnAt ea_iSnAt (fun r => erR 2 r.cs) f_iSnAt
theorem ea_iSnAt_inj (x y : Wd × Hd) (h : ea_iSnAt x = ea_iSnAt y) : x = y := by
  obtain ⟨w1, h1⟩ := x
  obtain ⟨w2, h2⟩ := y
  simp only [ea_iSnAt, List.cons.injEq, and_true, true_and] at h
  obtain ⟨e0, e1⟩ := h
  obtain rfl := Wd.cs_ext (aR_inj e0)
  obtain rfl := Hd.cs_ext (aR_inj e1)
  rfl
theorem dm_iSnAt {w : Wd} {h : Hd} (h0 : ok_iSnAt (w, h)) : dom ok_iSnAt ea_iSnAt [(0, true, [C.tr false (T.int IntKind.i64 w.c.chunks), C.tr false (T.int IntKind.i64 w.c.size), C.tr false (T.int IntKind.i64 w.c.slots), C.tr false (T.int IntKind.i64 w.c.tax), C.tr false (T.int IntKind.i64 w.c.slice), C.tr false (T.int IntKind.i64 w.c.gens), C.tr false (T.arr 1 w.p.mem.length (atL rowB w.p.mem)), C.tr false (T.arr 1 w.p.st.length (atL rowI w.p.st)), C.tr false (T.arr 1 w.p.own.length (atL rowI w.p.own)), C.tr false (T.arr 13 w.l.length (atL Nd.cs w.l)), C.tr false (T.arr 5 w.q.length (atL Ws.cs w.q)), C.tr false (T.arr 1 w.log.length (atL rowI w.log))]), (0, true, [C.tr false (T.int IntKind.i64 h.slot), C.tr false (T.int IntKind.i64 h.gen)])] = true := dom_ea (ea := ea_iSnAt) (x := (w, h)) h0
theorem iv_iSnAt {w : Wd} {h : Hd} (h0 : ok_iSnAt (w, h)) : inv ok_iSnAt ea_iSnAt [(0, true, [C.tr false (T.int IntKind.i64 w.c.chunks), C.tr false (T.int IntKind.i64 w.c.size), C.tr false (T.int IntKind.i64 w.c.slots), C.tr false (T.int IntKind.i64 w.c.tax), C.tr false (T.int IntKind.i64 w.c.slice), C.tr false (T.int IntKind.i64 w.c.gens), C.tr false (T.arr 1 w.p.mem.length (atL rowB w.p.mem)), C.tr false (T.arr 1 w.p.st.length (atL rowI w.p.st)), C.tr false (T.arr 1 w.p.own.length (atL rowI w.p.own)), C.tr false (T.arr 13 w.l.length (atL Nd.cs w.l)), C.tr false (T.arr 5 w.q.length (atL Ws.cs w.q)), C.tr false (T.arr 1 w.log.length (atL rowI w.log))]), (0, true, [C.tr false (T.int IntKind.i64 h.slot), C.tr false (T.int IntKind.i64 h.gen)])] = (w, h) := inv_ea ea_iSnAt_inj (x := (w, h)) h0
theorem d_iSnAt (w : Wd) (h : Hd) : f_iSnAt (w, h) = snA w h := rfl
def i_iSnAt : Nat := 35
noncomputable abbrev F_iSnAt : Func := f35
def kp_iSnAt : List (Nat × List Nat) := [(0, [8, 9, 12, 13, 16, 17, 60]), (1, [8, 9, 16, 17, 20, 60]), (2, [16, 17, 60])]
theorem pre_iSnAt (w : Wd) (h : Hd) (n : Nat) : body prog (tabS [(i_iFd, e_iFd), (i_iSeen, e_iSeen)]) kp_iSnAt n F_iSnAt [aR w.cs, aR h.cs] = (
 entK ok_iFd ea_iFd (f_iFd) [(0, true,
    [C.tr false (T.int IntKind.i64 w.c.1), C.tr false (T.int IntKind.i64 w.c.2),
      C.tr false (T.int IntKind.i64 w.c.3), C.tr false (T.int IntKind.i64 w.c.4),
      C.tr false (T.int IntKind.i64 w.c.5), C.tr false (T.int IntKind.i64 w.c.6), C.tr false (eL 1 rowB w.p.1),
      C.tr false (eL 1 rowI w.p.2), C.tr false (eL 1 rowI w.p.3), C.tr false (eL 13 Nd.cs w.3),
      C.tr false (eL 5 Ws.cs w.4), C.tr false (eL 1 rowI w.5)]),
  (0, true, [C.tr false (T.int IntKind.i64 h.1), C.tr false (T.int IntKind.i64 h.2)])] fun (r1 : Int × Int) =>
 entK ok_iSeen ea_iSeen (f_iSeen) [(0, true,
    [C.tr false (T.int IntKind.i64 w.c.1), C.tr false (T.int IntKind.i64 w.c.2),
      C.tr false (T.int IntKind.i64 w.c.3), C.tr false (T.int IntKind.i64 w.c.4),
      C.tr false (T.int IntKind.i64 w.c.5), C.tr false (T.int IntKind.i64 w.c.6), C.tr false (eL 1 rowB w.p.1),
      C.tr false (eL 1 rowI w.p.2), C.tr false (eL 1 rowI w.p.3), C.tr false (eL 13 Nd.cs w.3),
      C.tr false (eL 5 Ws.cs w.4), C.tr false (eL 1 rowI w.5)]),
  (0, false, [C.tr false (T.int IntKind.i64 r1.1)])] fun (r2 : Rm) =>
 gd (r2.3.length.ble r2.3.length && true) <|
 gd (r2.8.length.ble r2.8.length && true) <|
 gd (r2.9.length.ble r2.9.length && true) <|
 gd (r2.3.length.ble r2.3.length && true) <|
 gd (r2.8.length.ble r2.8.length && true) <|
 gd (r2.9.length.ble r2.9.length && true) <|
 some ([(true, [.tr true (T.int IntKind.i64 r2.h.1), .tr true (T.int IntKind.i64 r2.h.2), .tr true (T.int IntKind.i64 r2.up.1), .tr true (T.int IntKind.i64 r2.up.2), .tr true (.arr (2) (r2.3.length) ((eL 2 Hd.cs r2.3).fn)), .tr true (T.int IntKind.i64 r2.4), .tr true (T.int IntKind.i64 r2.5), .tr true (T.bool r2.6), .tr true (T.int IntKind.i64 r2.7), .tr true (.arr (1) (r2.8.length) ((eL 1 Sf.cs r2.8).fn)), .tr true (.arr (1) (r2.9.length) ((eL 1 rowI r2.9).fn))])], [(false, []), (false, [])])) := by kernel_rfl
end Go.Mach.F
namespace Go.Mach.F
open Go Go.Mach Go.Proofs.Try
theorem plc_in {l : List Nd} {h : Hd} (e : ¬ plc l h < 0) : plc l h = h.slot := by
  unfold plc at e ⊢
  cases hb : ((decide (0 ≤ h.slot) && decide (h.slot < (l.length : Int))) && (decide ((nd l h.slot).st = 1) && decide ((nd l h.slot).gen = h.gen))) with
  | true => rfl
  | false =>
    rw [hb] at e
    exact absurd (by decide : (-1 : Int) < 0) e
theorem body_iPl (l : List Nd) (h : Hd) (n : Nat) (h0 : ok_iPl (l, h)) : body prog (tabS [(i_isSlot, e_isSlot)]) kp_iPl n F_iPl (ea_iPl (l, h)) = some (erI 2 (f_iPl (l, h))) := by
  have hlm := lm
  have hl : l.length ≤ LM := h0.1
  unfold ea_iPl f_iPl plc
  dsimp only
  rw [pre_iPl]
  have w1 : IntKind.i64.wrap ((l.length : Int) - 1) = (l.length : Int) - 1 := by rw [IntKind.wrap_i64]; omega
  by_cases a0 : 0 ≤ h.slot
  case neg =>
    simp (implicitDefEqProofs := false) only [a0, decide_false, cond_false, Bool.false_and]
    rfl
  by_cases a1 : h.slot < (l.length : Int)
  case neg =>
    simp (implicitDefEqProofs := false) only [w1, a0, a1, show ¬ h.slot ≤ (l.length : Int) - 1 from by omega, decide_true, decide_false, cond_true, cond_false, Bool.not_false, Bool.and_false, Bool.false_and]
    rfl
  have a2 : h.slot ≤ (l.length : Int) - 1 := by omega
  have hb : h.slot.toNat < l.length := by omega
  simp (implicitDefEqProofs := false) only [lt_d, ge0_d, Int.toNat_natCast, blt_d, ble_self, beq_self, decide_true, cond_true, Bool.and_self, Bool.and_true, Bool.true_and, gd_true, Nat.zero_add, List.getD_cons_zero, List.getD_cons_succ, isI_int, toI_int, isB_bool, toB_bool, eL_T, arr_ln, arr_fn, arr_wd, arr_is, arr_get, w1, a0, a1, a2, hb, atL_of (nd_getk hb), Nd.cs, Bool.not_true, cond_false, int_ne]
  by_cases a3 : (nd l h.slot).st = 1
  case neg =>
    simp (implicitDefEqProofs := false) only [a3, decide_false, Bool.not_false, cond_true, Bool.false_and, cond_false]
    rfl
  by_cases a4 : (nd l h.slot).gen = h.gen
  case neg =>
    simp (implicitDefEqProofs := false) only [a3, a4, decide_true, decide_false, Bool.not_true, Bool.not_false, cond_true, Bool.and_false, cond_false]
    rfl
  simp (implicitDefEqProofs := false) only [a3, a4, decide_true, Bool.not_true, cond_true, Bool.and_self, cond_false]
  rfl
theorem s_iPl : EntOk prog i_iPl e_iPl := ent_ok ea_iPl_inj fun x hx =>
  body_sound (φ := (tabS [(i_isSlot, e_isSlot)])) (tabS_cons s_isSlot tabS_nil) mixed (kp := kp_iPl) (n := 0) func150 (c := bodyOf F_iPl) (by kernel_rfl) (body_iPl x.1 x.2 (0) hx) (name_ok (by kernel_rfl))
theorem body_sPl (l : List Nd) (h : Hd) (n : Nat) (h0 : ok_sPl (l, h)) : body prog (tabS [(i_l1In, e_l1In)]) kp_sPl n F_sPl (ea_sPl (l, h)) = some (erI 2 (f_sPl (l, h))) := by
  have hlm := lm
  have hl : l.length ≤ LM := h0.1
  unfold ea_sPl f_sPl plc
  dsimp only
  rw [pre_sPl]
  have w1 : IntKind.i64.wrap ((l.length : Int) - 1) = (l.length : Int) - 1 := by rw [IntKind.wrap_i64]; omega
  by_cases a0 : 0 ≤ h.slot
  case neg =>
    simp (implicitDefEqProofs := false) only [a0, decide_false, cond_false, Bool.false_and]
    rfl
  by_cases a1 : h.slot < (l.length : Int)
  case neg =>
    simp (implicitDefEqProofs := false) only [w1, a0, a1, show ¬ h.slot ≤ (l.length : Int) - 1 from by omega, decide_true, decide_false, cond_true, cond_false, Bool.not_false, Bool.and_false, Bool.false_and]
    rfl
  have a2 : h.slot ≤ (l.length : Int) - 1 := by omega
  have hb : h.slot.toNat < l.length := by omega
  simp (implicitDefEqProofs := false) only [lt_d, ge0_d, Int.toNat_natCast, blt_d, ble_self, beq_self, decide_true, cond_true, Bool.and_self, Bool.and_true, Bool.true_and, gd_true, Nat.zero_add, List.getD_cons_zero, List.getD_cons_succ, isI_int, toI_int, isB_bool, toB_bool, eL_T, arr_ln, arr_fn, arr_wd, arr_is, arr_get, w1, a0, a1, a2, hb, atL_of (nd_getk hb), Nd.cs, Bool.not_true, cond_false, int_ne]
  by_cases a3 : (nd l h.slot).st = 1
  case neg =>
    simp (implicitDefEqProofs := false) only [a3, decide_false, Bool.not_false, cond_true, Bool.false_and, cond_false]
    rfl
  by_cases a4 : (nd l h.slot).gen = h.gen
  case neg =>
    simp (implicitDefEqProofs := false) only [a3, a4, decide_true, decide_false, Bool.not_true, Bool.not_false, cond_true, Bool.and_false, cond_false]
    rfl
  simp (implicitDefEqProofs := false) only [a3, a4, decide_true, Bool.not_true, cond_true, Bool.and_self, cond_false]
  rfl
theorem s_sPl : EntOk prog i_sPl e_sPl := ent_ok ea_sPl_inj fun x hx =>
  body_sound (φ := (tabS [(i_l1In, e_l1In)])) (tabS_cons s_l1In tabS_nil) mixed (kp := kp_sPl) (n := 0) func148 (c := bodyOf F_sPl) (by kernel_rfl) (body_sPl x.1 x.2 (0) hx) (name_ok (by kernel_rfl))
theorem body_iFd (w : Wd) (h : Hd) (n : Nat) (h0 : ok_iFd (w, h)) : body prog (tabS [(i_iHOk, e_iHOk), (i_iPl, e_iPl), (i_iAlive, e_iAlive)]) kp_iFd n F_iFd (ea_iFd (w, h)) = some ([oT (.int .i64 (f_iFd (w, h)).1), oT (.int .i64 (f_iFd (w, h)).2)], [nul, nul]) := by
  obtain ⟨hl, hi, hu⟩ := h0
  dsimp only at hl hi hu
  have c0 : ok_iPl (w.l, h) := ⟨hl, hi⟩
  unfold ea_iFd f_iFd fdR hOk
  dsimp only
  rw [pre_iFd]
  by_cases a0 : 0 ≤ h.slot
  case neg =>
    simp (implicitDefEqProofs := false) only [a0, decide_false, cond_false, Bool.false_and]
    rfl
  by_cases a1 : 1 ≤ h.gen
  case neg =>
    simp (implicitDefEqProofs := false) only [a0, a1, decide_true, decide_false, cond_true, cond_false, Bool.not_false, Bool.and_false]
    rfl
  simp (implicitDefEqProofs := false) only [a0, a1, decide_true, cond_true, cond_false, Bool.not_true, Bool.and_self, eL_T]
  rw [entK_of (dm_iPl c0) (iv_iPl c0)]
  simp (implicitDefEqProofs := false) only [d_iPl]
  by_cases a2 : plc w.l h < 0
  · simp (implicitDefEqProofs := false) only [a2, decide_true, cond_true, Bool.true_or]
    rfl
  have c1 : ok_iAlive (w.l, plc w.l h) := ⟨hl, by show inI (plc w.l h); rw [plc_in a2]; exact hi, hu⟩
  simp (implicitDefEqProofs := false) only [a2, decide_false, cond_false, Bool.false_or]
  rw [entK_of (dm_iAlive c1) (iv_iAlive c1)]
  simp (implicitDefEqProofs := false) only [d_iAlive]
  cases alv w.l (plc w.l h) with
  | true => rfl
  | false => rfl
theorem s_iFd : EntOk prog i_iFd e_iFd := ent_ok ea_iFd_inj fun x hx =>
  body_sound (φ := (tabS [(i_iHOk, e_iHOk), (i_iPl, e_iPl), (i_iAlive, e_iAlive)])) (tabS_cons s_iHOk (tabS_cons s_iPl (tabS_cons s_iAlive tabS_nil))) mixed (kp := kp_iFd) (n := 0) func99 (c := bodyOf F_iFd) (by kernel_rfl) (body_iFd x.1 x.2 (0) hx) (name_ok (by kernel_rfl))
theorem body_sFd (w : Wd) (h : Hd) (n : Nat) (h0 : ok_sFd (w, h)) : body prog (tabS [(i_sHOk, e_sHOk), (i_sPl, e_sPl), (i_sAlive, e_sAlive)]) kp_sFd n F_sFd (ea_sFd (w, h)) = some ([oT (.int .i64 (f_sFd (w, h)).1), oT (.int .i64 (f_sFd (w, h)).2)], [nul, nul]) := by
  obtain ⟨hl, hi, hu⟩ := h0
  dsimp only at hl hi hu
  have c0 : ok_sPl (w.l, h) := ⟨hl, hi⟩
  unfold ea_sFd f_sFd fdR hOk
  dsimp only
  rw [pre_sFd]
  by_cases a0 : 0 ≤ h.slot
  case neg =>
    simp (implicitDefEqProofs := false) only [a0, decide_false, cond_false, Bool.false_and]
    rfl
  by_cases a1 : 1 ≤ h.gen
  case neg =>
    simp (implicitDefEqProofs := false) only [a0, a1, decide_true, decide_false, cond_true, cond_false, Bool.not_false, Bool.and_false]
    rfl
  simp (implicitDefEqProofs := false) only [a0, a1, decide_true, cond_true, cond_false, Bool.not_true, Bool.and_self, eL_T]
  rw [entK_of (dm_sPl c0) (iv_sPl c0)]
  simp (implicitDefEqProofs := false) only [d_sPl]
  by_cases a2 : plc w.l h < 0
  · simp (implicitDefEqProofs := false) only [a2, decide_true, cond_true, Bool.true_or]
    rfl
  have c1 : ok_sAlive (w.l, plc w.l h) := ⟨hl, by show inI (plc w.l h); rw [plc_in a2]; exact hi, hu⟩
  simp (implicitDefEqProofs := false) only [a2, decide_false, cond_false, Bool.false_or]
  rw [entK_of (dm_sAlive c1) (iv_sAlive c1)]
  simp (implicitDefEqProofs := false) only [d_sAlive]
  cases alv w.l (plc w.l h) with
  | true => rfl
  | false => rfl
theorem s_sFd : EntOk prog i_sFd e_sFd := ent_ok ea_sFd_inj fun x hx =>
  body_sound (φ := (tabS [(i_sHOk, e_sHOk), (i_sPl, e_sPl), (i_sAlive, e_sAlive)])) (tabS_cons s_sHOk (tabS_cons s_sPl (tabS_cons s_sAlive tabS_nil))) mixed (kp := kp_sFd) (n := 0) func98 (c := bodyOf F_sFd) (by kernel_rfl) (body_sFd x.1 x.2 (0) hx) (name_ok (by kernel_rfl))
theorem fdR_in {w : Wd} {h : Hd} (hi : inI h.slot) : inI (fdR w h).1 := by
  unfold fdR
  cases hOk h with
  | false => show inI (-1); unfold inI; omega
  | true =>
    rw [cond_true]
    cases hb : (decide (plc w.l h < 0) || !alv w.l (plc w.l h)) with
    | true => show inI (-1); unfold inI; omega
    | false =>
      have : ¬ plc w.l h < 0 := fun e => by rw [decide_eq_true e, Bool.true_or] at hb; cases hb
      show inI (plc w.l h)
      rw [plc_in this]
      exact hi
theorem fdR_no {w : Wd} {h : Hd} (e : ¬ (fdR w h).2 = 0) : (fdR w h).1 = -1 := by
  unfold fdR at e ⊢
  cases ho : hOk h with
  | false => rfl
  | true =>
    rw [ho, cond_true] at e
    rw [cond_true]
    cases hb : (decide (plc w.l h < 0) || !alv w.l (plc w.l h)) with
    | true => rfl
    | false =>
      rw [hb] at e
      exact absurd rfl e
theorem body_iSnAt (w : Wd) (h : Hd) (n : Nat) (h0 : ok_iSnAt (w, h)) : body prog (tabS [(i_iFd, e_iFd), (i_iSeen, e_iSeen)]) kp_iSnAt n F_iSnAt (ea_iSnAt (w, h)) = some (erR 2 (f_iSnAt (w, h)).cs) := by
  obtain ⟨hl, hm, hi, hn, hu⟩ := h0
  dsimp only at hl hm hi hn hu
  have c0 : ok_iFd (w, h) := ⟨hl, hi, hu⟩
  have c1 : ok_iSeen (w, (fdR w h).1) := ⟨hl, hm, fdR_in hi, hn⟩
  unfold ea_iSnAt f_iSnAt snA
  dsimp only
  rw [pre_iSnAt]
  simp (implicitDefEqProofs := false) only [eL_T]
  rw [entK_of (dm_iFd c0) (iv_iFd c0)]
  simp (implicitDefEqProofs := false) only [d_iFd]
  rw [entK_of (dm_iSeen c1) (iv_iSeen c1)]
  simp (implicitDefEqProofs := false) only [d_iSeen, ble_d, Nat.le_refl, decide_true, Bool.and_true, gd_true]
  rfl
theorem s_iSnAt : EntOk prog i_iSnAt e_iSnAt := ent_ok ea_iSnAt_inj fun x hx =>
  body_sound (φ := (tabS [(i_iFd, e_iFd), (i_iSeen, e_iSeen)])) (tabS_cons s_iFd (tabS_cons s_iSeen tabS_nil)) mixed (kp := kp_iSnAt) (n := 0) func35 (c := bodyOf F_iSnAt) (by kernel_rfl) (body_iSnAt x.1 x.2 (0) hx) (name_ok (by kernel_rfl))
end Go.Mach.F
namespace Go.Mach.F
open Go Go.Mach Go.Proofs.Try
theorem hdI_sh {x : Hd} (hh : ShTs x.cs shHd) : inI x.slot := wf_i64 hh.1.2
theorem snA_ok {w : Wd} {h : Hd} (e : (n_Wd w : Int) ≤ 1048576) : (okq_HdS (snA w h).kids ∧ okq_SfS (snA w h).things ∧ okq_LI (snA w h).tags) ∧ n_HdS (snA w h).kids + n_SfS (snA w h).things + n_LI (snA w h).tags ≤ 1099514773504 := seenR_ok e
end Go.Mach.F
namespace Go.Mach.F
open Go Go.Mach Go.Proofs.Try
--=set_option maxRecDepth 100000
def bsn (w : Wd) (h : Hd) : List UInt8 := (snA w h).things.flatMap Sf.b
def ok_iBs (x : Wd × Hd) : Prop := (x.1.l.length ≤ LM ∧ x.1.p.mem.length ≤ LM ∧ inI x.2.slot ∧ ndI x.1.l ∧ upI x.1.l) ∧ (bsn x.1 x.2).length ≤ 1099514773504
def ea_iBs (x : Wd × Hd) : List Arg := [aR x.1.cs, aR x.2.cs]
def f_iBs (x : Wd × Hd) : List UInt8 := bsn x.1 x.2
noncomputable def e_iBs : Ent := ent [] ok_iBs ea_iBs (fun r => erT 2 (eB r)) f_iBs
theorem ea_iBs_inj (x y : Wd × Hd) (h : ea_iBs x = ea_iBs y) : x = y := by
  obtain ⟨w1, h1⟩ := x
  obtain ⟨w2, h2⟩ := y
  simp only [ea_iBs, List.cons.injEq, and_true, true_and] at h
  obtain ⟨e0, e1⟩ := h
  obtain rfl := Wd.cs_ext (aR_inj e0)
  obtain rfl := Hd.cs_ext (aR_inj e1)
  rfl
theorem dm_iBs {w : Wd} {h : Hd} (h0 : ok_iBs (w, h)) : dom ok_iBs ea_iBs [(0, true, [C.tr false (T.int IntKind.i64 w.c.chunks), C.tr false (T.int IntKind.i64 w.c.size), C.tr false (T.int IntKind.i64 w.c.slots), C.tr false (T.int IntKind.i64 w.c.tax), C.tr false (T.int IntKind.i64 w.c.slice), C.tr false (T.int IntKind.i64 w.c.gens), C.tr false (T.arr 1 w.p.mem.length (atL rowB w.p.mem)), C.tr false (T.arr 1 w.p.st.length (atL rowI w.p.st)), C.tr false (T.arr 1 w.p.own.length (atL rowI w.p.own)), C.tr false (T.arr 13 w.l.length (atL Nd.cs w.l)), C.tr false (T.arr 5 w.q.length (atL Ws.cs w.q)), C.tr false (T.arr 1 w.log.length (atL rowI w.log))]), (0, true, [C.tr false (T.int IntKind.i64 h.slot), C.tr false (T.int IntKind.i64 h.gen)])] = true := dom_ea (ea := ea_iBs) (x := (w, h)) h0
theorem iv_iBs {w : Wd} {h : Hd} (h0 : ok_iBs (w, h)) : inv ok_iBs ea_iBs [(0, true, [C.tr false (T.int IntKind.i64 w.c.chunks), C.tr false (T.int IntKind.i64 w.c.size), C.tr false (T.int IntKind.i64 w.c.slots), C.tr false (T.int IntKind.i64 w.c.tax), C.tr false (T.int IntKind.i64 w.c.slice), C.tr false (T.int IntKind.i64 w.c.gens), C.tr false (T.arr 1 w.p.mem.length (atL rowB w.p.mem)), C.tr false (T.arr 1 w.p.st.length (atL rowI w.p.st)), C.tr false (T.arr 1 w.p.own.length (atL rowI w.p.own)), C.tr false (T.arr 13 w.l.length (atL Nd.cs w.l)), C.tr false (T.arr 5 w.q.length (atL Ws.cs w.q)), C.tr false (T.arr 1 w.log.length (atL rowI w.log))]), (0, true, [C.tr false (T.int IntKind.i64 h.slot), C.tr false (T.int IntKind.i64 h.gen)])] = (w, h) := inv_ea ea_iBs_inj (x := (w, h)) h0
theorem d_iBs (w : Wd) (h : Hd) : f_iBs (w, h) = bsn w h := rfl
def i_iBs : Nat := 30
noncomputable abbrev F_iBs : Func := f30
def kp_iBs : List (Nat × List Nat) := [(0, [8, 9, 12, 13]), (1, [8, 9, 12, 13, 20]), (2, [20, 44, 48, 52, 56]), (3, [20, 44, 48, 52, 56, 60]), (4, [20, 28, 29, 44, 48, 52, 56, 64, 68]), (5, [20, 44, 48, 52, 56]), (6, [20, 44, 48, 52, 56]), (7, [16])]
def ts_iBs : List Nat := [0, 0]
def st_iBs_1 (w : Wd) (h : Hd) (r1 : Rm) (nx20 : Nat) (fx20 : Nat → Nat → T) (nx44_9 : Nat) (fx44_9 : Nat → Nat → T) (sx48 : Nat) (nx48 : Nat) (x56 : Int) : St := [(20, ⟨z0, [(false, [.tr true (.arr (1) (nx20) (fx20))])]⟩), (44, ⟨z0, [(true, [.tr true (T.int IntKind.i64 r1.h.1), .tr true (T.int IntKind.i64 r1.h.2), .tr true (T.int IntKind.i64 r1.up.1), .tr true (T.int IntKind.i64 r1.up.2), .tr true (eL 2 Hd.cs r1.3), .tr true (T.int IntKind.i64 r1.4), .tr true (T.int IntKind.i64 r1.5), .tr true (T.bool r1.6), .tr true (T.int IntKind.i64 r1.7), .tr true (.arr (1) (nx44_9) (fx44_9)), .tr true (eL 1 rowI r1.9)])]⟩), (48, ⟨z0, [(false, [(C.ref 44 0 [0, 2 + 1 + 1 + 1 + 1 + 1 + 1 + 1] 1 sx48 nx48)])]⟩), (52, ⟨z0, [(false, [.tr true (T.int IntKind.i64 (↑r1.8.length : Int))])]⟩), (56, ⟨z0, [(false, [.tr true (T.int IntKind.i64 x56)])]⟩)]
def ex_iBs_1_1 (w : Wd) (h : Hd) (r1 : Rm) (nx20 : Nat) (fx20 : Nat → Nat → T) (nx44_9 : Nat) (fx44_9 : Nat → Nat → T) (sx48 : Nat) (nx48 : Nat) (x56 : Int) : St := [(20, ⟨z0, [(false, [.tr true (.arr (1) (nx20) (fx20))])]⟩), (44, ⟨z0, [(true, [.tr true (T.int IntKind.i64 r1.h.1), .tr true (T.int IntKind.i64 r1.h.2), .tr true (T.int IntKind.i64 r1.up.1), .tr true (T.int IntKind.i64 r1.up.2), .tr true (eL 2 Hd.cs r1.3), .tr true (T.int IntKind.i64 r1.4), .tr true (T.int IntKind.i64 r1.5), .tr true (T.bool r1.6), .tr true (T.int IntKind.i64 r1.7), .tr true (.arr (1) (nx44_9) (fx44_9)), .tr true (eL 1 rowI r1.9)])]⟩), (48, ⟨z0, [(false, [(C.ref 44 0 [0, 4 + 1 + 1 + 1 + 1 + 1] 1 sx48 nx48)])]⟩), (52, ⟨z0, [(false, [.tr true (T.int IntKind.i64 (↑r1.8.length : Int))])]⟩), (56, ⟨z0, [(false, [.tr true (T.int IntKind.i64 x56)])]⟩), (60, ⟨z0, []⟩)]
theorem round_iBs_1 (w : Wd) (h : Hd) (r1 : Rm) (nx20 : Nat) (fx20 : Nat → Nat → T) (nx44_9 : Nat) (fx44_9 : Nat → Nat → T) (sx48 : Nat) (nx48 : Nat) (x56 : Int) (n : Nat) (K : Ex → St → Res) : roundAt prog (tabS [(i_iSnAt, e_iSnAt)]) kp_iBs F_iBs [1, 1, 0, 1, 0] n (st_iBs_1 w h r1 nx20 fx20 nx44_9 fx44_9 sx48 nx48 x56) K = (
 bif decide (x56 < (↑r1.8.length : Int)) then
  gd (decide (0 ≤ x56) && (x56.toNat.blt nx48 && true)) <|
  gd ((sx48 + x56.toNat).blt nx44_9 && true && ((fx44_9 (sx48 + x56.toNat) 0).isArr && (fx44_9 (sx48 + x56.toNat) 0).wd.beq 1)) <|
  gd ((sx48 + x56.toNat).blt nx44_9 && true && true && ((T.arr 1 nx44_9 fx44_9).get [sx48 + x56.toNat, 0]).isArr) <|
  gd ((fx44_9 (sx48 + x56.toNat) 0).ln.ble ((T.arr 1 nx44_9 fx44_9).get [sx48 + x56.toNat, 0]).ln &&
  Nat.beq 1 ((T.arr 1 nx44_9 fx44_9).get [sx48 + x56.toNat, 0]).wd) <|
  gd (nx20.ble nx20 && true) <|
  gd ((0 + (fx44_9 (sx48 + x56.toNat) 0).ln).ble (fx44_9 (sx48 + x56.toNat) 0).ln) <|
  gd (((nx20 + (fx44_9 (sx48 + x56.toNat) 0).ln) * 1).ble 70368744177664 &&
  (nx20 + (fx44_9 (sx48 + x56.toNat) 0).ln).ble 70368744177664) <|
  gd ((nx20 + (fx44_9 (sx48 + x56.toNat) 0).ln).ble (nx20 + (fx44_9 (sx48 + x56.toNat) 0).ln) && true) <|
  K .normal (st_iBs_1 w h r1 (nx20 + (fx44_9 (sx48 + x56.toNat) 0).ln) (appF nx20 fx20 (plainF (cutT 0 (fx44_9 (sx48 + x56.toNat) 0).ln ((T.arr 1 nx44_9 fx44_9).get [sx48 + x56.toNat, 0]).fn))) (nx44_9) (setF (sx48 + x56.toNat) 0 T.hole fx44_9) (sx48) (nx48) (IntKind.i64.wrap (x56 + 1)))
 else
 K (.exit 0) (ex_iBs_1_1 w h r1 nx20 fx20 nx44_9 fx44_9 sx48 nx48 x56)) := by kernel_rfl
theorem post_iBs_1_1 (w : Wd) (h : Hd) (r1 : Rm) (nx20 : Nat) (fx20 : Nat → Nat → T) (nx44_9 : Nat) (fx44_9 : Nat → Nat → T) (sx48 : Nat) (nx48 : Nat) (x56 : Int) (n : Nat) : contAt prog (tabS [(i_iSnAt, e_iSnAt)]) kp_iBs F_iBs ts_iBs [1, 1, 0, 1, 0] [] n (.exit 0) (ex_iBs_1_1 w h r1 nx20 fx20 nx44_9 fx44_9 sx48 nx48 x56) = (
 gd (nx20.ble nx20 && true) <|
 gd (nx20.ble nx20 && true) <|
 some ([(false, [.tr true (.arr (1) (nx20) (fx20))])], [(false, []), (false, [])])) := by kernel_rfl
theorem pre_iBs (w : Wd) (h : Hd) (n : Nat) : body prog (tabS [(i_iSnAt, e_iSnAt)]) kp_iBs n F_iBs [aR w.cs, aR h.cs] = (
 entK ok_iSnAt ea_iSnAt (f_iSnAt) [(0, true,
    [C.tr false (T.int IntKind.i64 w.c.1), C.tr false (T.int IntKind.i64 w.c.2),
      C.tr false (T.int IntKind.i64 w.c.3), C.tr false (T.int IntKind.i64 w.c.4),
      C.tr false (T.int IntKind.i64 w.c.5), C.tr false (T.int IntKind.i64 w.c.6), C.tr false (eL 1 rowB w.p.1),
      C.tr false (eL 1 rowI w.p.2), C.tr false (eL 1 rowI w.p.3), C.tr false (eL 13 Nd.cs w.3),
      C.tr false (eL 5 Ws.cs w.4), C.tr false (eL 1 rowI w.5)]),
  (0, true, [C.tr false (T.int IntKind.i64 h.1), C.tr false (T.int IntKind.i64 h.2)])] fun (r1 : Rm) =>
 loopAt prog (tabS [(i_iSnAt, e_iSnAt)]) kp_iBs F_iBs [1, 1, 0, 1, 0] n n (st_iBs_1 w h r1 (0) (rowsT []) (T.ln (eL 1 Sf.cs r1.8)) (T.fn (eL 1 Sf.cs r1.8)) (0) (r1.8.length) (0)) (contAt prog (tabS [(i_iSnAt, e_iSnAt)]) kp_iBs F_iBs ts_iBs [1, 1, 0, 1, 0] [] n)) := by kernel_rfl
def ok_sBs (x : Wd × Hd) : Prop := (x.1.l.length ≤ LM ∧ x.1.p.mem.length ≤ LM ∧ inI x.2.slot ∧ ndI x.1.l ∧ upI x.1.l) ∧ (bsn x.1 x.2).length ≤ 1099514773504
def ea_sBs (x : Wd × Hd) : List Arg := [aR x.1.cs, aR x.2.cs]
def f_sBs (x : Wd × Hd) : List UInt8 := bsn x.1 x.2
noncomputable def e_sBs : Ent := ent [] ok_sBs ea_sBs (fun r => erT 2 (eB r)) f_sBs
theorem ea_sBs_inj (x y : Wd × Hd) (h : ea_sBs x = ea_sBs y) : x = y := by
  obtain ⟨w1, h1⟩ := x
  obtain ⟨w2, h2⟩ := y
  simp only [ea_sBs, List.cons.injEq, and_true, true_and] at h
  obtain ⟨e0, e1⟩ := h
  obtain rfl := Wd.cs_ext (aR_inj e0)
  obtain rfl := Hd.cs_ext (aR_inj e1)
  rfl
theorem dm_sBs {w : Wd} {h : Hd} (h0 : ok_sBs (w, h)) : dom ok_sBs ea_sBs [(0, true, [C.tr false (T.int IntKind.i64 w.c.chunks), C.tr false (T.int IntKind.i64 w.c.size), C.tr false (T.int IntKind.i64 w.c.slots), C.tr false (T.int IntKind.i64 w.c.tax), C.tr false (T.int IntKind.i64 w.c.slice), C.tr false (T.int IntKind.i64 w.c.gens), C.tr false (T.arr 1 w.p.mem.length (atL rowB w.p.mem)), C.tr false (T.arr 1 w.p.st.length (atL rowI w.p.st)), C.tr false (T.arr 1 w.p.own.length (atL rowI w.p.own)), C.tr false (T.arr 13 w.l.length (atL Nd.cs w.l)), C.tr false (T.arr 5 w.q.length (atL Ws.cs w.q)), C.tr false (T.arr 1 w.log.length (atL rowI w.log))]), (0, true, [C.tr false (T.int IntKind.i64 h.slot), C.tr false (T.int IntKind.i64 h.gen)])] = true := dom_ea (ea := ea_sBs) (x := (w, h)) h0
theorem iv_sBs {w : Wd} {h : Hd} (h0 : ok_sBs (w, h)) : inv ok_sBs ea_sBs [(0, true, [C.tr false (T.int IntKind.i64 w.c.chunks), C.tr false (T.int IntKind.i64 w.c.size), C.tr false (T.int IntKind.i64 w.c.slots), C.tr false (T.int IntKind.i64 w.c.tax), C.tr false (T.int IntKind.i64 w.c.slice), C.tr false (T.int IntKind.i64 w.c.gens), C.tr false (T.arr 1 w.p.mem.length (atL rowB w.p.mem)), C.tr false (T.arr 1 w.p.st.length (atL rowI w.p.st)), C.tr false (T.arr 1 w.p.own.length (atL rowI w.p.own)), C.tr false (T.arr 13 w.l.length (atL Nd.cs w.l)), C.tr false (T.arr 5 w.q.length (atL Ws.cs w.q)), C.tr false (T.arr 1 w.log.length (atL rowI w.log))]), (0, true, [C.tr false (T.int IntKind.i64 h.slot), C.tr false (T.int IntKind.i64 h.gen)])] = (w, h) := inv_ea ea_sBs_inj (x := (w, h)) h0
theorem d_sBs (w : Wd) (h : Hd) : f_sBs (w, h) = bsn w h := rfl
def i_sBs : Nat := 29
noncomputable abbrev F_sBs : Func := f29
def kp_sBs : List (Nat × List Nat) := [(0, [8, 9, 12, 13]), (1, [8, 9, 12, 13, 20]), (2, [8, 9, 20, 24, 28]), (3, [8, 9, 20, 24, 72]), (4, [16]), (5, [20, 32, 33, 88]), (6, [20, 32, 33, 36, 88]), (7, [20, 32, 33, 36, 88, 108]), (8, [20, 32, 33, 36, 88]), (9, [20, 32, 33, 36, 88]), (10, [16])]
def ts_sBs : List Nat := [0, 0]
def st_sBs_1 (w : Wd) (h : Hd) (r2 : Rm) (nx20 : Nat) (fx20 : Nat → Nat → T) (x36 : Int) : St := [(20, ⟨z0, [(false, [.tr true (.arr (1) (nx20) (fx20))])]⟩), (32, ⟨z0, [(false, [(C.pt (Pt.ptr 33 0 [] 11 0 0))])]⟩), (33, ⟨z0, [(true, [.tr true (T.int IntKind.i64 r2.h.1), .tr true (T.int IntKind.i64 r2.h.2), .tr true (T.int IntKind.i64 r2.up.1), .tr true (T.int IntKind.i64 r2.up.2), .tr true (.arr (2) (r2.3.length) ((eL 2 Hd.cs r2.3).fn)), .tr true (T.int IntKind.i64 r2.4), .tr true (T.int IntKind.i64 r2.5), .tr true (T.bool r2.6), .tr true (T.int IntKind.i64 r2.7), .tr true (.arr (1) (r2.8.length) ((eL 1 Sf.cs r2.8).fn)), .tr true (.arr (1) (r2.9.length) ((eL 1 rowI r2.9).fn))])]⟩), (36, ⟨z0, [(false, [.tr true (T.int IntKind.i64 x36)])]⟩), (88, ⟨z0, [(true, [.tr true (T.int IntKind.i64 r2.h.1), .tr true (T.int IntKind.i64 r2.h.2), .tr true (T.int IntKind.i64 r2.up.1), .tr true (T.int IntKind.i64 r2.up.2), .tr true (T.hole), .tr true (T.int IntKind.i64 r2.4), .tr true (T.int IntKind.i64 r2.5), .tr true (T.bool r2.6), .tr true (T.int IntKind.i64 r2.7), .tr true (T.hole), .tr true (T.hole)])]⟩)]
def ex_sBs_1_1 (w : Wd) (h : Hd) (r2 : Rm) (nx20 : Nat) (fx20 : Nat → Nat → T) (x36 : Int) : St := [(20, ⟨z0, [(false, [.tr true (.arr (1) (nx20) (fx20))])]⟩), (32, ⟨z0, [(false, [(C.pt (Pt.ptr 33 0 [] 11 0 0))])]⟩), (33, ⟨z0, [(true, [.tr true (T.int IntKind.i64 r2.h.1), .tr true (T.int IntKind.i64 r2.h.2), .tr true (T.int IntKind.i64 r2.up.1), .tr true (T.int IntKind.i64 r2.up.2), .tr true (.arr (2) (r2.3.length) ((eL 2 Hd.cs r2.3).fn)), .tr true (T.int IntKind.i64 r2.4), .tr true (T.int IntKind.i64 r2.5), .tr true (T.bool r2.6), .tr true (T.int IntKind.i64 r2.7), .tr true (.arr (1) (r2.8.length) ((eL 1 Sf.cs r2.8).fn)), .tr true (.arr (1) (r2.9.length) ((eL 1 rowI r2.9).fn))])]⟩), (36, ⟨z0, [(false, [.tr true (T.int IntKind.i64 x36)])]⟩), (88, ⟨z0, [(true, [.tr true (T.int IntKind.i64 r2.h.1), .tr true (T.int IntKind.i64 r2.h.2), .tr true (T.int IntKind.i64 r2.up.1), .tr true (T.int IntKind.i64 r2.up.2), .tr true (T.hole), .tr true (T.int IntKind.i64 r2.4), .tr true (T.int IntKind.i64 r2.5), .tr true (T.bool r2.6), .tr true (T.int IntKind.i64 r2.7), .tr true (T.hole), .tr true (T.hole)])]⟩), (108, ⟨z0, []⟩)]
theorem round_sBs_1 (w : Wd) (h : Hd) (r2 : Rm) (nx20 : Nat) (fx20 : Nat → Nat → T) (x36 : Int) (n : Nat) (K : Ex → St → Res) : roundAt prog (tabS [(i_sFd, e_sFd), (i_sSeen, e_sSeen)]) kp_sBs F_sBs [1, 1, 1, 1, 1, 0, 1, 0] n (st_sBs_1 w h r2 nx20 fx20 x36) K = (
 bif decide (x36 < (↑r2.8.length : Int)) then
  gd (decide (0 ≤ x36) && (x36.toNat.blt r2.8.length && true)) <|
  gd ((0 + x36.toNat).blt r2.8.length && true &&
  ((atL Sf.cs r2.8 (0 + x36.toNat) (0 + 0)).isArr && (atL Sf.cs r2.8 (0 + x36.toNat) (0 + 0)).wd.beq 1)) <|
  gd (nx20.ble nx20 && true) <|
  gd ((0 + x36.toNat).blt r2.8.length && true && true &&
  ((T.arr 1 r2.8.length (eL 1 Sf.cs r2.8).fn).get [0 + x36.toNat, 0 + 0]).isArr) <|
  gd (Nat.beq 1 ((T.arr 1 r2.8.length (eL 1 Sf.cs r2.8).fn).get [0 + x36.toNat, 0 + 0]).wd &&
  (0 + (atL Sf.cs r2.8 (0 + x36.toNat) (0 + 0)).ln).ble
    ((T.arr 1 r2.8.length (eL 1 Sf.cs r2.8).fn).get [0 + x36.toNat, 0 + 0]).ln) <|
  gd (((nx20 + (atL Sf.cs r2.8 (0 + x36.toNat) (0 + 0)).ln) * 1).ble 70368744177664 &&
  (nx20 + (atL Sf.cs r2.8 (0 + x36.toNat) (0 + 0)).ln).ble 70368744177664) <|
  gd ((nx20 + (atL Sf.cs r2.8 (0 + x36.toNat) (0 + 0)).ln).ble
    (nx20 + (atL Sf.cs r2.8 (0 + x36.toNat) (0 + 0)).ln) &&
  true) <|
  K .normal (st_sBs_1 w h r2 (nx20 + (atL Sf.cs r2.8 (0 + x36.toNat) 0).ln) (appF nx20 fx20
  (plainF
    (cutT 0 (atL Sf.cs r2.8 (0 + x36.toNat) 0).ln
      ((T.arr 1 r2.8.length (eL 1 Sf.cs r2.8).fn).get [0 + x36.toNat, 0]).fn))) (IntKind.i64.wrap (x36 + 1)))
 else
 K (.exit 0) (ex_sBs_1_1 w h r2 nx20 fx20 x36)) := by kernel_rfl
theorem post_sBs_1_1 (w : Wd) (h : Hd) (r2 : Rm) (nx20 : Nat) (fx20 : Nat → Nat → T) (x36 : Int) (n : Nat) : contAt prog (tabS [(i_sFd, e_sFd), (i_sSeen, e_sSeen)]) kp_sBs F_sBs ts_sBs [1, 1, 1, 1, 1, 0, 1, 0] [] n (.exit 0) (ex_sBs_1_1 w h r2 nx20 fx20 x36) = (
 gd (nx20.ble nx20 && true) <|
 gd (nx20.ble nx20 && true) <|
 some ([(false, [.tr true (.arr (1) (nx20) (fx20))])], [(false, []), (false, [])])) := by kernel_rfl
theorem pre_sBs (w : Wd) (h : Hd) (n : Nat) : body prog (tabS [(i_sFd, e_sFd), (i_sSeen, e_sSeen)]) kp_sBs n F_sBs [aR w.cs, aR h.cs] = (
 entK ok_sFd ea_sFd (f_sFd) [(0, true,
    [C.tr false (T.int IntKind.i64 w.c.1), C.tr false (T.int IntKind.i64 w.c.2),
      C.tr false (T.int IntKind.i64 w.c.3), C.tr false (T.int IntKind.i64 w.c.4),
      C.tr false (T.int IntKind.i64 w.c.5), C.tr false (T.int IntKind.i64 w.c.6), C.tr false (eL 1 rowB w.p.1),
      C.tr false (eL 1 rowI w.p.2), C.tr false (eL 1 rowI w.p.3), C.tr false (eL 13 Nd.cs w.3),
      C.tr false (eL 5 Ws.cs w.4), C.tr false (eL 1 rowI w.5)]),
  (0, true, [C.tr false (T.int IntKind.i64 h.1), C.tr false (T.int IntKind.i64 h.2)])] fun (r1 : Int × Int) =>
 bif r1.2 != 0 then
  some ([(false, [.tr true (.arr (1) (0) (rowsT []))])], [(false, []), (false, [])])
 else
 entK ok_sSeen ea_sSeen (f_sSeen) [(0, true,
    [C.tr false (T.int IntKind.i64 w.c.1), C.tr false (T.int IntKind.i64 w.c.2),
      C.tr false (T.int IntKind.i64 w.c.3), C.tr false (T.int IntKind.i64 w.c.4),
      C.tr false (T.int IntKind.i64 w.c.5), C.tr false (T.int IntKind.i64 w.c.6), C.tr false (eL 1 rowB w.p.1),
      C.tr false (eL 1 rowI w.p.2), C.tr false (eL 1 rowI w.p.3), C.tr false (eL 13 Nd.cs w.3),
      C.tr false (eL 5 Ws.cs w.4), C.tr false (eL 1 rowI w.5)]),
  (0, false, [C.tr false (T.int IntKind.i64 r1.1)])] fun (r2 : Rm) =>
 gd (r2.3.length.ble r2.3.length && true) <|
 gd (r2.8.length.ble r2.8.length && true) <|
 gd (r2.9.length.ble r2.9.length && true) <|
 loopAt prog (tabS [(i_sFd, e_sFd), (i_sSeen, e_sSeen)]) kp_sBs F_sBs [1, 1, 1, 1, 1, 0, 1, 0] n n (st_sBs_1 w h r2 (0) (rowsT []) (0)) (contAt prog (tabS [(i_sFd, e_sFd), (i_sSeen, e_sSeen)]) kp_sBs F_sBs ts_sBs [1, 1, 1, 1, 1, 0, 1, 0] [] n)) := by kernel_rfl
end Go.Mach.F
namespace Go.Mach.F
open Go Go.Mach Go.Proofs.Try
--=set_option maxRecDepth 100000
/-- What EagerGive's test captures. -/
structure Dc where
  met : List Hd
  whole : Bool
  h : Hd
  deriving Inhabited
end Go.Mach.F
namespace Go.Mach.F
open Go Go.Mach Go.Proofs.Try
theorem setF_j {j k j' k' : Nat} {u : T} {f : Nat → Nat → T} (h : j' ≠ j) : setF j k u f j' k' = f j' k' := by
  unfold setF
  rw [beqF h, Bool.false_and]
  rfl
end Go.Mach.F
namespace Go.Mach.F
open Go Go.Mach Go.Proofs.Try
theorem snA_len {w : Wd} {h : Hd} (hn : ndI w.l) : (snA w h).things.length ≤ LM := by
  unfold snA seenR
  by_cases h0 : 0 ≤ (fdR w h).1 ∧ (fdR w h).1 < (w.l.length : Int)
  · rw [decide_eq_true h0.1, decide_eq_true h0.2, Bool.and_self, cond_true]
    show ((nd w.l (fdR w h).1).things.map _).length ≤ LM
    rw [List.length_map]
    exact (hn _ (nd_in (by omega))).2.2.1
  · have : (decide (0 ≤ (fdR w h).1) && decide ((fdR w h).1 < (w.l.length : Int))) = false := by
      by_cases h1 : 0 ≤ (fdR w h).1
      · rw [decide_eq_false (fun e => h0 ⟨h1, e⟩), Bool.and_false]
      · rw [decide_eq_false h1, Bool.false_and]
    rw [this, cond_false]
    exact Nat.zero_le _
def hbF (l : List Sf) : Nat → Nat → Nat → T
  | 0 => atL Sf.cs l
  | i + 1 => setF i 0 T.hole (hbF l i)
theorem hbF_at (l : List Sf) : ∀ i j k, i ≤ j → hbF l i j k = atL Sf.cs l j k
  | 0, _, _, _ => rfl
  | i + 1, j, k, hj => by
    show setF i 0 T.hole (hbF l i) j k = _
    rw [setF_j (by omega)]
    exact hbF_at l i j k (by omega)
theorem tkf_next {α β : Type} (f : α → List β) {l : List α} {i : Nat} {x : α} (hx : l[i]? = some x) : (l.take (i + 1)).flatMap f = (l.take i).flatMap f ++ f x := by
  rw [List.take_add_one, hx, List.flatMap_append]
  simp
theorem tkf_len {α β : Type} (f : α → List β) (l : List α) (i : Nat) : ((l.take i).flatMap f).length ≤ (l.flatMap f).length := by
  have h : l.flatMap f = (l.take i).flatMap f ++ (l.drop i).flatMap f := by rw [← List.flatMap_append, List.take_append_drop]
  rw [h, List.length_append]
  omega
theorem body_iBs (w : Wd) (h : Hd) (h0 : ok_iBs (w, h)) : body prog (tabS [(i_iSnAt, e_iSnAt)]) kp_iBs ((snA w h).things.length + 1) F_iBs (ea_iBs (w, h)) = some (erT 2 (eB (f_iBs (w, h)))) := by
  obtain ⟨⟨hl, hm, hi, hn, hu⟩, hb⟩ := h0
  dsimp only at hl hm hi hn hu hb
  have c0 : ok_iSnAt (w, h) := ⟨hl, hm, hi, hn, hu⟩
  unfold ea_iBs f_iBs
  dsimp only
  rw [pre_iBs]
  simp (implicitDefEqProofs := false) only [eL_T]
  rw [entK_of (dm_iSnAt c0) (iv_iSnAt c0)]
  simp (implicitDefEqProofs := false) only [d_iSnAt, lt_d, ge0_d, Int.toNat_natCast, blt_d, ble_self, beq_self, decide_true, cond_true, Bool.and_self, Bool.and_true, Bool.true_and, gd_true, Nat.zero_add, List.getD_cons_zero, List.getD_cons_succ, isI_int, toI_int, isB_bool, toB_bool, eL_T, arr_ln, arr_fn, arr_wd, arr_is, arr_get]
  obtain ⟨r, hr⟩ : ∃ r, r = snA w h := ⟨_, rfl⟩
  have hbs : bsn w h = r.things.flatMap Sf.b := by rw [hr]; rfl
  rw [hbs] at hb ⊢
  rw [← hr]
  obtain ⟨l, hle⟩ : ∃ l, l = r.things := ⟨_, rfl⟩
  rw [← hle] at hb ⊢
  have hlm := lm
  have hLL : l.length ≤ LM := by rw [hle, hr]; exact snA_len hn
  have hst : st_iBs_1 w h r 0 (rowsT []) l.length (atL Sf.cs l) 0 l.length 0 = (fun i : Nat => (st_iBs_1 w h r ((l.take i).flatMap Sf.b).length (atL rowB ((l.take i).flatMap Sf.b)) l.length (hbF l i) 0 l.length (i : Nat))) 0 := by
    rw [rowsT0 rowB]
    try rfl
  refine Eq.trans (congrArg (fun s => loopAt prog (tabS [(i_iSnAt, e_iSnAt)]) kp_iBs F_iBs [1, 1, 0, 1, 0] _ _ s _) (show _ = (fun i : Nat => (st_iBs_1 w h r ((l.take i).flatMap Sf.b).length (atL rowB ((l.take i).flatMap Sf.b)) l.length (hbF l i) 0 l.length (i : Nat))) 0 from ?_)) ?_
  · rw [← hst, hle]
    try rfl
  rw [forLoop l.length (fun i : Nat => (st_iBs_1 w h r ((l.take i).flatMap Sf.b).length (atL rowB ((l.take i).flatMap Sf.b)) l.length (hbF l i) 0 l.length (i : Nat))) (ex_iBs_1_1 w h r (l.flatMap Sf.b).length (atL rowB (l.flatMap Sf.b)) l.length (hbF l l.length) 0 l.length l.length) 0 (fun i K hi => ?_) (fun K => ?_) _ (Nat.le_refl _)]
  · rw [post_iBs_1_1]
    simp (implicitDefEqProofs := false) only [ble_d, Nat.le_refl, decide_true, Bool.and_true, gd_true]
    rfl
  · have hx := List.getElem?_eq_getElem hi
    obtain ⟨x, hxe⟩ : ∃ x, x = l[i] := ⟨_, rfl⟩
    rw [← hxe] at hx
    have hx2 : r.things[i]? = some x := by rw [← hle]; exact hx
    have hi2 : i < r.things.length := by rw [← hle]; exact hi
    have e3 := tkf_next Sf.b hx
    have e4 := tkf_len Sf.b l (i + 1)
    rw [e3, List.length_append] at e4
    have hlen : l.length ≤ 1099511627776 ∨ True := .inr trivial
    have s1 : ((l.take i).flatMap Sf.b).length + x.b.length ≤ 70368744177664 := by omega
    have w1 : IntKind.i64.wrap ((i : Int) + 1) = ((i + 1 : Nat) : Int) := wrapS (by have := hLL; omega)
    have hA : hbF l i i 0 = eB x.b := by rw [hbF_at l i i 0 (Nat.le_refl _), atL_of hx]; rfl
    rw [round_iBs_1, e3]
    simp (implicitDefEqProofs := false) only [lt_d, ge0_d, Int.toNat_natCast, blt_d, ble_self, beq_self, decide_true, cond_true, Bool.and_self, Bool.and_true, Bool.true_and, gd_true, Nat.zero_add, List.getD_cons_zero, List.getD_cons_succ, isI_int, toI_int, isB_bool, toB_bool, eL_T, arr_ln, arr_fn, arr_wd, arr_is, arr_get, hi, hi2, ← hle, ble_d, Nat.le_refl, Nat.mul_one, s1, w1, Nat.add_zero, hA, cut_all, plain_B, appF_app, List.length_append]
    rfl
  · rw [round_iBs_1]
    simp (implicitDefEqProofs := false) only [← hle, lt_d, Nat.lt_irrefl, decide_false, cond_false, List.take_length]
theorem s_iBs : EntOk prog i_iBs e_iBs := ent_ok ea_iBs_inj fun x hx =>
  body_sound (φ := (tabS [(i_iSnAt, e_iSnAt)])) (tabS_cons s_iSnAt tabS_nil) mixed (kp := kp_iBs) (n := (snA x.1 x.2).things.length + 1) func30 (c := bodyOf F_iBs) (by kernel_rfl) (body_iBs x.1 x.2 hx) (name_ok (by kernel_rfl))
theorem body_sBs (w : Wd) (h : Hd) (h0 : ok_sBs (w, h)) : body prog (tabS [(i_sFd, e_sFd), (i_sSeen, e_sSeen)]) kp_sBs ((snA w h).things.length + 1) F_sBs (ea_sBs (w, h)) = some (erT 2 (eB (f_sBs (w, h)))) := by
  obtain ⟨⟨hl, hm, hi, hn, hu⟩, hb⟩ := h0
  dsimp only at hl hm hi hn hu hb
  have c0 : ok_sFd (w, h) := ⟨hl, hi, hu⟩
  have c1 : ok_sSeen (w, (fdR w h).1) := ⟨hl, hm, fdR_in hi, hn⟩
  unfold ea_sBs f_sBs
  dsimp only
  rw [pre_sBs]
  simp (implicitDefEqProofs := false) only [eL_T]
  rw [entK_of (dm_sFd c0) (iv_sFd c0)]
  simp (implicitDefEqProofs := false) only [d_sFd, int_ne]
  by_cases e : (fdR w h).2 = 0
  case neg =>
    have e2 : bsn w h = [] := by
      unfold bsn snA
      rw [fdR_no e]
      rfl
    rw [e2, rowsT0 rowB]
    simp (implicitDefEqProofs := false) only [e, decide_false, Bool.not_false, cond_true]
    rfl
  simp (implicitDefEqProofs := false) only [e, decide_true, Bool.not_true, cond_false]
  rw [entK_of (dm_sSeen c1) (iv_sSeen c1)]
  simp (implicitDefEqProofs := false) only [d_sSeen, ble_d, Nat.le_refl, decide_true, Bool.and_true, gd_true]
  rw [show seenR w (fdR w h).1 = snA w h from rfl]
  obtain ⟨r, hr⟩ : ∃ r, r = snA w h := ⟨_, rfl⟩
  have hbs : bsn w h = r.things.flatMap Sf.b := by rw [hr]; rfl
  rw [hbs] at hb ⊢
  rw [← hr]
  obtain ⟨l, hle⟩ : ∃ l, l = r.things := ⟨_, rfl⟩
  rw [← hle] at hb ⊢
  have hlm := lm
  have hLL : l.length ≤ LM := by rw [hle, hr]; exact snA_len hn
  have hst : st_sBs_1 w h r 0 (rowsT []) 0 = (fun i : Nat => (st_sBs_1 w h r ((l.take i).flatMap Sf.b).length (atL rowB ((l.take i).flatMap Sf.b)) (i : Nat))) 0 := by
    rw [rowsT0 rowB]
    try rfl
  rw [hst]
  rw [forLoop l.length (fun i : Nat => (st_sBs_1 w h r ((l.take i).flatMap Sf.b).length (atL rowB ((l.take i).flatMap Sf.b)) (i : Nat))) (ex_sBs_1_1 w h r (l.flatMap Sf.b).length (atL rowB (l.flatMap Sf.b)) l.length) 0 (fun i K hi => ?_) (fun K => ?_) _ (Nat.le_refl _)]
  · rw [post_sBs_1_1]
    simp (implicitDefEqProofs := false) only [ble_d, Nat.le_refl, decide_true, Bool.and_true, gd_true]
    rfl
  · have hx := List.getElem?_eq_getElem hi
    obtain ⟨x, hxe⟩ : ∃ x, x = l[i] := ⟨_, rfl⟩
    rw [← hxe] at hx
    have hx2 : r.things[i]? = some x := by rw [← hle]; exact hx
    have hi2 : i < r.things.length := by rw [← hle]; exact hi
    have e3 := tkf_next Sf.b hx
    have e4 := tkf_len Sf.b l (i + 1)
    rw [e3, List.length_append] at e4
    have hlen : l.length ≤ 1099511627776 ∨ True := .inr trivial
    have s1 : ((l.take i).flatMap Sf.b).length + x.b.length ≤ 70368744177664 := by omega
    have w1 : IntKind.i64.wrap ((i : Int) + 1) = ((i + 1 : Nat) : Int) := wrapS (by have := hLL; omega)
    rw [round_sBs_1, e3]
    simp (implicitDefEqProofs := false) only [lt_d, ge0_d, Int.toNat_natCast, blt_d, ble_self, beq_self, decide_true, cond_true, Bool.and_self, Bool.and_true, Bool.true_and, gd_true, Nat.zero_add, List.getD_cons_zero, List.getD_cons_succ, isI_int, toI_int, isB_bool, toB_bool, eL_T, arr_ln, arr_fn, arr_wd, arr_is, arr_get, hi, hi2, ← hle, ble_d, Nat.le_refl, Nat.mul_one, s1, w1, Nat.add_zero, atL_of hx, atL_of hx2, Sf.cs, cut_all, plain_B, appF_app, List.length_append]
  · rw [round_sBs_1]
    simp (implicitDefEqProofs := false) only [← hle, lt_d, Nat.lt_irrefl, decide_false, cond_false, List.take_length]
theorem s_sBs : EntOk prog i_sBs e_sBs := ent_ok ea_sBs_inj fun x hx =>
  body_sound (φ := (tabS [(i_sFd, e_sFd), (i_sSeen, e_sSeen)])) (tabS_cons s_sFd (tabS_cons s_sSeen tabS_nil)) mixed (kp := kp_sBs) (n := (snA x.1 x.2).things.length + 1) func29 (c := bodyOf F_sBs) (by kernel_rfl) (body_sBs x.1 x.2 hx) (name_ok (by kernel_rfl))
end Go.Mach.F
namespace Go.Mach.F
open Go Go.Mach Go.Proofs.Try
theorem flat_len : ∀ l : List Sf, (l.flatMap Sf.b).length = cntL n1_SfS l
  | [] => rfl
  | x :: l => by
    have ih := flat_len l
    rw [List.flatMap_cons, List.length_append, ih]
    rfl
theorem bsn_len {w : Wd} {h : Hd} (e : (n_Wd w : Int) ≤ 1048576) : (bsn w h).length ≤ 1099514773504 := by
  have h1 := (snA_ok (h := h) e).2
  have h2 : n_SfS (snA w h).things = (snA w h).things.length + cntL n1_SfS (snA w h).things := rfl
  unfold bsn
  rw [flat_len]
  omega
end Go.Mach.F
namespace Go.Mach.F
open Go Go.Mach Go.Proofs.Try
--=set_option maxRecDepth 100000
def m1_ThS (x : Th) (k : Int) : Th := ⟨(k), (k + 1), (k + 1 + 1)⟩
def c1_ThS (x : Th) : Nat := 1 + 1 + 1
def okh_ThS (x : List Th × Int) : Prop := okq_ThS x.1 ∧ 0 ≤ x.2 ∧ x.2 + cntL c1_ThS x.1 ≤ BM
def eam_ThS (x : List Th × Int) : List Arg := [lT (eL 3 Th.cs x.1), aI x.2]
def mk_ThS (l : List Th) (k : Int) : List Th := markL m1_ThS c1_ThS l k
def f_mkThS (x : List Th × Int) : List Th := mk_ThS x.1 x.2
def f_ctThS (x : List Th × Int) : Int := x.2 + cntL c1_ThS x.1
noncomputable def e_mkThS : Ent := ent [1] okh_ThS eam_ThS (fun x => ([oT (.int .i64 (f_ctThS x))], [oT (eL 3 Th.cs (f_mkThS x)), nul])) fun x => x
theorem eam_ThS_inj (x y : List Th × Int) (h : eam_ThS x = eam_ThS y) : x = y := by
  simp only [eam_ThS, lT, aI, aT, List.cons.injEq, Prod.mk.injEq, true_and, and_true, C.tr.injEq, T.int.injEq] at h
  exact Prod.ext (eL_inj Th.cs_inj h.1) h.2
def i_mkThS : Nat := 147
noncomputable abbrev F_mkThS : Func := f147
def kp_mkThS : List (Nat × List Nat) := [(0, [0, 4, 2]), (1, [0, 4, 20, 2]), (2, [0, 4, 20, 36, 2]), (3, [0, 4, 20, 2]), (4, [0, 4, 20, 2]), (5, [0, 4, 20, 2]), (6, [0, 4, 20, 2]), (7, [0, 4, 20, 2]), (8, [0, 4, 20, 2]), (9, [0, 4, 20, 2]), (10, [16, 2])]
def ts_mkThS : List Nat := [1, 0]
def st_mkThS_1 (l : List Th) (k : Int) (x4 : Int) (x20 : Int) (nx2 : Nat) (fx2 : Nat → Nat → T) : St := [(0, ⟨z0, [(false, [(C.ref 2 0 [0, 0] 3 0 l.length)])]⟩), (4, ⟨z0, [(false, [.tr true (T.int IntKind.i64 x4)])]⟩), (20, ⟨z0, [(false, [.tr true (T.int IntKind.i64 x20)])]⟩), (2, ⟨z0, [(false, [.tr true (.arr (3) (nx2) (fx2))])]⟩)]
def ex_mkThS_1_1 (l : List Th) (k : Int) (x4 : Int) (x20 : Int) (nx2 : Nat) (fx2 : Nat → Nat → T) : St := [(0, ⟨z0, [(false, [(C.ref 2 0 [0, 0] 3 0 l.length)])]⟩), (4, ⟨z0, [(false, [.tr true (T.int IntKind.i64 x4)])]⟩), (20, ⟨z0, [(false, [.tr true (T.int IntKind.i64 x20)])]⟩), (36, ⟨z0, []⟩), (2, ⟨z0, [(false, [.tr true (.arr (3) (nx2) (fx2))])]⟩)]
theorem round_mkThS_1 (l : List Th) (k : Int) (x4 : Int) (x20 : Int) (nx2 : Nat) (fx2 : Nat → Nat → T) (n : Nat) (K : Ex → St → Res) : roundAt prog (tabS []) kp_mkThS F_mkThS [1, 0, 1, 0] n (st_mkThS_1 l k x4 x20 nx2 fx2) K = (
 bif decide (x20 < (↑l.length : Int)) then
  gd (decide (0 ≤ x20) && (x20.toNat.blt l.length && true)) <|
  gd ((0 + x20.toNat).blt nx2 && true && true) <|
  gd (decide (0 ≤ x20) && (x20.toNat.blt l.length && true)) <|
  gd ((0 + x20.toNat).blt nx2 && true && true) <|
  gd (decide (0 ≤ x20) && (x20.toNat.blt l.length && true)) <|
  gd ((0 + x20.toNat).blt nx2 && true && true) <|
  K .normal (st_mkThS_1 l k (IntKind.i64.wrap (IntKind.i64.wrap (IntKind.i64.wrap (x4 + 1) + 1) + 1)) (IntKind.i64.wrap (x20 + 1)) (nx2) (setF (0 + x20.toNat) 2 (T.int IntKind.i64 (IntKind.i64.wrap (IntKind.i64.wrap (x4 + 1) + 1)))
  (setF (0 + x20.toNat) 1 (T.int IntKind.i64 (IntKind.i64.wrap (x4 + 1)))
    (setF (0 + x20.toNat) 0 (T.int IntKind.i64 x4) fx2))))
 else
 K (.exit 0) (ex_mkThS_1_1 l k x4 x20 nx2 fx2)) := by kernel_rfl
theorem post_mkThS_1_1 (l : List Th) (k : Int) (x4 : Int) (x20 : Int) (nx2 : Nat) (fx2 : Nat → Nat → T) (n : Nat) : contAt prog (tabS []) kp_mkThS F_mkThS ts_mkThS [1, 0, 1, 0] [] n (.exit 0) (ex_mkThS_1_1 l k x4 x20 nx2 fx2) = (
 some ([(false, [.tr true (T.int IntKind.i64 x4)])], [(false, [.tr true (.arr (3) (nx2) (fx2))]), (false, [])])) := by kernel_rfl
theorem pre_mkThS (l : List Th) (k : Int) (n : Nat) : body prog (tabS []) kp_mkThS n F_mkThS [lT (eL 3 Th.cs l), aI k] = (
 loopAt prog (tabS []) kp_mkThS F_mkThS [1, 0, 1, 0] n n (st_mkThS_1 l k (k) (0) (T.ln (eL 3 Th.cs l)) (T.fn (eL 3 Th.cs l))) (contAt prog (tabS []) kp_mkThS F_mkThS ts_mkThS [1, 0, 1, 0] [] n)) := by kernel_rfl
theorem body_mkThS (l : List Th) (k : Int) (h : okh_ThS (l, k)) : body prog (tabS []) kp_mkThS (l.length + 1) F_mkThS (eam_ThS (l, k)) = some ([oT (.int .i64 (f_ctThS (l, k)))], [oT (eL 3 Th.cs (f_mkThS (l, k))), nul]) := by
  obtain ⟨hl, hk0, hk1⟩ := h
  have hbm := bm
  dsimp only at hl hk0 hk1
  have hl' : l.length ≤ BM := hl.1
  unfold eam_ThS f_ctThS f_mkThS
  dsimp only
  rw [pre_mkThS]
  have hst : st_mkThS_1 l k k 0 l.length (atL Th.cs l) = (fun i : Nat => st_mkThS_1 l k (k + cntL c1_ThS (l.take i)) (i : Nat) l.length (atL Th.cs (mkd m1_ThS c1_ThS l k i))) 0 := by simp [cntL, mkd_zero]
  refine Eq.trans (congrArg (fun s => loopAt prog _ _ _ _ _ _ s _) hst) ?_
  rw [forLoop l.length (fun i : Nat => st_mkThS_1 l k (k + cntL c1_ThS (l.take i)) (i : Nat) l.length (atL Th.cs (mkd m1_ThS c1_ThS l k i))) (ex_mkThS_1_1 l k (k + cntL c1_ThS l) l.length l.length (atL Th.cs (mk_ThS l k))) 0 (fun i K hi => ?_) (fun K => ?_) _ (Nat.le_refl _)]
  · rw [post_mkThS_1_1]
    have := markL_len m1_ThS c1_ThS l k
    rw [eL_T, show (mk_ThS l k).length = l.length from this]
    rfl
  · have hx := List.getElem?_eq_getElem hi
    obtain ⟨x, hxe⟩ : ∃ x, x = l[i] := ⟨_, rfl⟩
    rw [← hxe] at hx
    have hxm : x ∈ l := List.mem_of_getElem? hx
    have hg := mkd_get m1_ThS c1_ThS l k hx
    have hc := cntL_take c1_ThS l hx
    have hcl := cntL_le c1_ThS l (i + 1)
    have hcx : c1_ThS x = 1 + 1 + 1 := rfl
    
    rw [hc, round_mkThS_1]
    have hms := mkd_set m1_ThS c1_ThS l k hx
    have hml : i < (mkd m1_ThS c1_ThS l k i).length := by rw [mkd_len _ _ _ _ (by omega)]; exact hi
    obtain ⟨k0, hk⟩ : ∃ k0, k0 = k + (cntL c1_ThS (l.take i) : Int) := ⟨_, rfl⟩
    have hk2 : k + ((cntL c1_ThS (l.take i) + c1_ThS x : Nat) : Int) = k0 + 1 + 1 + 1 := by omega
    rw [hk2]
    rw [← hk] at hms ⊢
    
    simp (disch := omega) only [lt_d, ge0_d, Int.toNat_natCast, blt_d, ble_self, beq_self, decide_true, cond_true, Bool.and_self, Bool.and_true, Bool.true_and, gd_true, Nat.zero_add, List.getD_cons_zero, List.getD_cons_succ, isI_int, toI_int, isB_bool, toB_bool, eL_T, arr_ln, arr_fn, arr_wd, arr_is, arr_get, hi, atL_of hg, Th.cs, wrapI, wrapS, setF_d, and_self, if_true, if_false, true_and, false_and, and_true, and_false, Nat.add_zero, Nat.reduceEqDiff, Nat.reduceAdd]
    rw [← hms]
    congr 2
    refine set_atL hml fun j' k' => ?_
    by_cases e : j' = i
    · subst e
      rcases k' with _ | _ | _ | k' <;> simp [setF_d, Th.cs, m1_ThS, atL_of hg, eL_T]
    · simp [setF_d, e]
  · rw [round_mkThS_1, mkd_all]
    simp only [lt_d, Nat.lt_irrefl, decide_false, cond_false, List.take_length]
    rfl
theorem s_mkThS : EntOk prog i_mkThS e_mkThS := ent_ok eam_ThS_inj fun x hx =>
  body_sound (φ := (tabS [])) tabS_nil mixed (kp := kp_mkThS) (n := x.1.length + 1) func147 (c := bodyOf F_mkThS) (by kernel_rfl) (body_mkThS x.1 x.2 hx) (name_ok (by kernel_rfl))
theorem dm_mkThS {l : List Th} {k : Int} (h : okh_ThS (l, k)) : dom okh_ThS eam_ThS [(1, false, [C.tr true (T.arr 3 l.length (atL Th.cs l))]), (0, false, [C.tr false (T.int IntKind.i64 k)])] = true := dom_ea (ea := eam_ThS) (x := (l, k)) h
theorem iv_mkThS {l : List Th} {k : Int} (h : okh_ThS (l, k)) : inv okh_ThS eam_ThS [(1, false, [C.tr true (T.arr 3 l.length (atL Th.cs l))]), (0, false, [C.tr false (T.int IntKind.i64 k)])] = (l, k) := inv_ea eam_ThS_inj (x := (l, k)) h
theorem len_mkThS (l : List Th) (k : Int) : (mk_ThS l k).length = l.length := markL_len _ _ _ _
theorem d_mkThS (l : List Th) (k : Int) : f_mkThS (l, k) = mk_ThS l k := rfl
theorem d_ctThS (l : List Th) (k : Int) : f_ctThS (l, k) = k + cntL c1_ThS l := rfl
def m1_WsS (x : Ws) (k : Int) : Ws := ⟨(k), (k + 1), (mk_LI x.tags (k + 1 + 1)), (mk_LI x.chunks (k + 1 + 1 + cntL c1_LI x.tags)), (k + 1 + 1 + cntL c1_LI x.tags + cntL c1_LI x.chunks)⟩
def c1_WsS (x : Ws) : Nat := 1 + 1 + cntL c1_LI x.tags + cntL c1_LI x.chunks + 1
def okh_WsS (x : List Ws × Int) : Prop := okq_WsS x.1 ∧ 0 ≤ x.2 ∧ x.2 + cntL c1_WsS x.1 ≤ BM
def eam_WsS (x : List Ws × Int) : List Arg := [lT (eL 5 Ws.cs x.1), aI x.2]
def mk_WsS (l : List Ws) (k : Int) : List Ws := markL m1_WsS c1_WsS l k
def f_mkWsS (x : List Ws × Int) : List Ws := mk_WsS x.1 x.2
def f_ctWsS (x : List Ws × Int) : Int := x.2 + cntL c1_WsS x.1
noncomputable def e_mkWsS : Ent := ent [1] okh_WsS eam_WsS (fun x => ([oT (.int .i64 (f_ctWsS x))], [oT (eL 5 Ws.cs (f_mkWsS x)), nul])) fun x => x
theorem eam_WsS_inj (x y : List Ws × Int) (h : eam_WsS x = eam_WsS y) : x = y := by
  simp only [eam_WsS, lT, aI, aT, List.cons.injEq, Prod.mk.injEq, true_and, and_true, C.tr.injEq, T.int.injEq] at h
  exact Prod.ext (eL_inj Ws.cs_inj h.1) h.2
def i_mkWsS : Nat := 93
noncomputable abbrev F_mkWsS : Func := f93
def kp_mkWsS : List (Nat × List Nat) := [(0, [0, 4, 2]), (1, [0, 4, 20, 2]), (2, [0, 4, 20, 36, 2]), (3, [0, 4, 20, 2]), (4, [0, 4, 20, 2]), (5, [0, 4, 20, 2]), (6, [0, 4, 20, 2]), (7, [0, 4, 20, 2]), (8, [0, 4, 20, 2]), (9, [0, 4, 20, 2]), (10, [0, 4, 20, 2]), (11, [0, 4, 20, 2]), (12, [16, 2])]
def ts_mkWsS : List Nat := [1, 0]
def st_mkWsS_1 (l : List Ws) (k : Int) (x4 : Int) (x20 : Int) (nx2 : Nat) (fx2 : Nat → Nat → T) : St := [(0, ⟨z0, [(false, [(C.ref 2 0 [0, 0] 5 0 l.length)])]⟩), (4, ⟨z0, [(false, [.tr true (T.int IntKind.i64 x4)])]⟩), (20, ⟨z0, [(false, [.tr true (T.int IntKind.i64 x20)])]⟩), (2, ⟨z0, [(false, [.tr true (.arr (5) (nx2) (fx2))])]⟩)]
def ex_mkWsS_1_1 (l : List Ws) (k : Int) (x4 : Int) (x20 : Int) (nx2 : Nat) (fx2 : Nat → Nat → T) : St := [(0, ⟨z0, [(false, [(C.ref 2 0 [0, 0] 5 0 l.length)])]⟩), (4, ⟨z0, [(false, [.tr true (T.int IntKind.i64 x4)])]⟩), (20, ⟨z0, [(false, [.tr true (T.int IntKind.i64 x20)])]⟩), (36, ⟨z0, []⟩), (2, ⟨z0, [(false, [.tr true (.arr (5) (nx2) (fx2))])]⟩)]
theorem round_mkWsS_1 (l : List Ws) (k : Int) (x4 : Int) (x20 : Int) (nx2 : Nat) (fx2 : Nat → Nat → T) (n : Nat) (K : Ex → St → Res) : roundAt prog (tabS [(i_mkLI, e_mkLI)]) kp_mkWsS F_mkWsS [1, 0, 1, 0] n (st_mkWsS_1 l k x4 x20 nx2 fx2) K = (
 bif decide (x20 < (↑l.length : Int)) then
  gd (decide (0 ≤ x20) && (x20.toNat.blt l.length && true)) <|
  gd ((0 + x20.toNat).blt nx2 && true && true) <|
  gd (decide (0 ≤ x20) && (x20.toNat.blt l.length && true)) <|
  gd ((0 + x20.toNat).blt nx2 && true && true) <|
  gd (decide (0 ≤ x20) && (x20.toNat.blt l.length && true)) <|
  gd ((0 + x20.toNat).blt nx2 && true &&
  ((setF (0 + x20.toNat) 1 (T.int IntKind.i64 (IntKind.i64.wrap (x4 + 1)))
        (setF (0 + x20.toNat) 0 (T.int IntKind.i64 x4) fx2) (0 + x20.toNat) (2 + 0)).isArr &&
    (setF (0 + x20.toNat) 1 (T.int IntKind.i64 (IntKind.i64.wrap (x4 + 1)))
            (setF (0 + x20.toNat) 0 (T.int IntKind.i64 x4) fx2) (0 + x20.toNat) (2 + 0)).wd.beq
      1)) <|
  gd ((0 + x20.toNat).blt nx2 && true && true &&
  ((T.arr 5 nx2
          (setF (0 + x20.toNat) 1 (T.int IntKind.i64 (IntKind.i64.wrap (x4 + 1)))
            (setF (0 + x20.toNat) 0 (T.int IntKind.i64 x4) fx2))).get
      [0 + x20.toNat, 2 + 0]).isArr) <|
  gd ((setF (0 + x20.toNat) 1 (T.int IntKind.i64 (IntKind.i64.wrap (x4 + 1)))
          (setF (0 + x20.toNat) 0 (T.int IntKind.i64 x4) fx2) (0 + x20.toNat) (2 + 0)).ln.beq
    ((T.arr 5 nx2
            (setF (0 + x20.toNat) 1 (T.int IntKind.i64 (IntKind.i64.wrap (x4 + 1)))
              (setF (0 + x20.toNat) 0 (T.int IntKind.i64 x4) fx2))).get
        [0 + x20.toNat, 2 + 0]).ln &&
  Nat.beq 1
    ((T.arr 5 nx2
            (setF (0 + x20.toNat) 1 (T.int IntKind.i64 (IntKind.i64.wrap (x4 + 1)))
              (setF (0 + x20.toNat) 0 (T.int IntKind.i64 x4) fx2))).get
        [0 + x20.toNat, 2 + 0]).wd) <|
  entK okh_LI eam_LI (fun x => x) [(1, false,
    [C.tr true
        (T.arr 1
          (setF (0 + x20.toNat) 1 (T.int IntKind.i64 (IntKind.i64.wrap (x4 + 1)))
              (setF (0 + x20.toNat) 0 (T.int IntKind.i64 x4) fx2) (0 + x20.toNat) (2 + 0)).ln
          ((T.arr 5 nx2
                  (setF (0 + x20.toNat) 1 (T.int IntKind.i64 (IntKind.i64.wrap (x4 + 1)))
                    (setF (0 + x20.toNat) 0 (T.int IntKind.i64 x4) fx2))).get
              [0 + x20.toNat, 2 + 0]).fn)]),
  (0, false, [C.tr false (T.int IntKind.i64 (IntKind.i64.wrap (IntKind.i64.wrap (x4 + 1) + 1)))])] fun (r1 : List Int × Int) =>
  gd ((setF (0 + x20.toNat) 1 (T.int IntKind.i64 (IntKind.i64.wrap (x4 + 1)))
          (setF (0 + x20.toNat) 0 (T.int IntKind.i64 x4) fx2) (0 + x20.toNat) (2 + 0)).ln.beq
    (f_mkLI r1).length &&
  ((0 + x20.toNat).blt nx2 && true && true)) <|
  gd (decide (0 ≤ x20) && (x20.toNat.blt l.length && true)) <|
  gd ((0 + x20.toNat).blt nx2 && true &&
  ((setF (0 + x20.toNat) (2 + 0) (T.arr 1 (f_mkLI r1).length (atL rowI (f_mkLI r1)))
        (setF (0 + x20.toNat) (2 + 0)
          (T.lent 1
            (setF (0 + x20.toNat) 1 (T.int IntKind.i64 (IntKind.i64.wrap (x4 + 1)))
                (setF (0 + x20.toNat) 0 (T.int IntKind.i64 x4) fx2) (0 + x20.toNat) (2 + 0)).ln)
          (setF (0 + x20.toNat) 1 (T.int IntKind.i64 (IntKind.i64.wrap (x4 + 1)))
            (setF (0 + x20.toNat) 0 (T.int IntKind.i64 x4) fx2)))
        (0 + x20.toNat) (3 + 0)).isArr &&
    (setF (0 + x20.toNat) (2 + 0) (T.arr 1 (f_mkLI r1).length (atL rowI (f_mkLI r1)))
            (setF (0 + x20.toNat) (2 + 0)
              (T.lent 1
                (setF (0 + x20.toNat) 1 (T.int IntKind.i64 (IntKind.i64.wrap (x4 + 1)))
                    (setF (0 + x20.toNat) 0 (T.int IntKind.i64 x4) fx2) (0 + x20.toNat) (2 + 0)).ln)
              (setF (0 + x20.toNat) 1 (T.int IntKind.i64 (IntKind.i64.wrap (x4 + 1)))
                (setF (0 + x20.toNat) 0 (T.int IntKind.i64 x4) fx2)))
            (0 + x20.toNat) (3 + 0)).wd.beq
      1)) <|
  gd ((0 + x20.toNat).blt nx2 && true && true &&
  ((T.arr 5 nx2
          (setF (0 + x20.toNat) (2 + 0) (T.arr 1 (f_mkLI r1).length (atL rowI (f_mkLI r1)))
            (setF (0 + x20.toNat) (2 + 0)
              (T.lent 1
                (setF (0 + x20.toNat) 1 (T.int IntKind.i64 (IntKind.i64.wrap (x4 + 1)))
                    (setF (0 + x20.toNat) 0 (T.int IntKind.i64 x4) fx2) (0 + x20.toNat) (2 + 0)).ln)
              (setF (0 + x20.toNat) 1 (T.int IntKind.i64 (IntKind.i64.wrap (x4 + 1)))
                (setF (0 + x20.toNat) 0 (T.int IntKind.i64 x4) fx2))))).get
      [0 + x20.toNat, 3 + 0]).isArr) <|
  gd ((setF (0 + x20.toNat) (2 + 0) (T.arr 1 (f_mkLI r1).length (atL rowI (f_mkLI r1)))
          (setF (0 + x20.toNat) (2 + 0)
            (T.lent 1
              (setF (0 + x20.toNat) 1 (T.int IntKind.i64 (IntKind.i64.wrap (x4 + 1)))
                  (setF (0 + x20.toNat) 0 (T.int IntKind.i64 x4) fx2) (0 + x20.toNat) (2 + 0)).ln)
            (setF (0 + x20.toNat) 1 (T.int IntKind.i64 (IntKind.i64.wrap (x4 + 1)))
              (setF (0 + x20.toNat) 0 (T.int IntKind.i64 x4) fx2)))
          (0 + x20.toNat) (3 + 0)).ln.beq
    ((T.arr 5 nx2
            (setF (0 + x20.toNat) (2 + 0) (T.arr 1 (f_mkLI r1).length (atL rowI (f_mkLI r1)))
              (setF (0 + x20.toNat) (2 + 0)
                (T.lent 1
                  (setF (0 + x20.toNat) 1 (T.int IntKind.i64 (IntKind.i64.wrap (x4 + 1)))
                      (setF (0 + x20.toNat) 0 (T.int IntKind.i64 x4) fx2) (0 + x20.toNat) (2 + 0)).ln)
                (setF (0 + x20.toNat) 1 (T.int IntKind.i64 (IntKind.i64.wrap (x4 + 1)))
                  (setF (0 + x20.toNat) 0 (T.int IntKind.i64 x4) fx2))))).get
        [0 + x20.toNat, 3 + 0]).ln &&
  Nat.beq 1
    ((T.arr 5 nx2
            (setF (0 + x20.toNat) (2 + 0) (T.arr 1 (f_mkLI r1).length (atL rowI (f_mkLI r1)))
              (setF (0 + x20.toNat) (2 + 0)
                (T.lent 1
                  (setF (0 + x20.toNat) 1 (T.int IntKind.i64 (IntKind.i64.wrap (x4 + 1)))
                      (setF (0 + x20.toNat) 0 (T.int IntKind.i64 x4) fx2) (0 + x20.toNat) (2 + 0)).ln)
                (setF (0 + x20.toNat) 1 (T.int IntKind.i64 (IntKind.i64.wrap (x4 + 1)))
                  (setF (0 + x20.toNat) 0 (T.int IntKind.i64 x4) fx2))))).get
        [0 + x20.toNat, 3 + 0]).wd) <|
  entK okh_LI eam_LI (fun x => x) [(1, false,
    [C.tr true
        (T.arr 1
          (setF (0 + x20.toNat) (2 + 0) (T.arr 1 (f_mkLI r1).length (atL rowI (f_mkLI r1)))
              (setF (0 + x20.toNat) (2 + 0)
                (T.lent 1
                  (setF (0 + x20.toNat) 1 (T.int IntKind.i64 (IntKind.i64.wrap (x4 + 1)))
                      (setF (0 + x20.toNat) 0 (T.int IntKind.i64 x4) fx2) (0 + x20.toNat) (2 + 0)).ln)
                (setF (0 + x20.toNat) 1 (T.int IntKind.i64 (IntKind.i64.wrap (x4 + 1)))
                  (setF (0 + x20.toNat) 0 (T.int IntKind.i64 x4) fx2)))
              (0 + x20.toNat) (3 + 0)).ln
          ((T.arr 5 nx2
                  (setF (0 + x20.toNat) (2 + 0) (T.arr 1 (f_mkLI r1).length (atL rowI (f_mkLI r1)))
                    (setF (0 + x20.toNat) (2 + 0)
                      (T.lent 1
                        (setF (0 + x20.toNat) 1 (T.int IntKind.i64 (IntKind.i64.wrap (x4 + 1)))
                            (setF (0 + x20.toNat) 0 (T.int IntKind.i64 x4) fx2) (0 + x20.toNat) (2 + 0)).ln)
                      (setF (0 + x20.toNat) 1 (T.int IntKind.i64 (IntKind.i64.wrap (x4 + 1)))
                        (setF (0 + x20.toNat) 0 (T.int IntKind.i64 x4) fx2))))).get
              [0 + x20.toNat, 3 + 0]).fn)]),
  (0, false, [C.tr false (T.int IntKind.i64 (f_ctLI r1))])] fun (r2 : List Int × Int) =>
  gd ((setF (0 + x20.toNat) (2 + 0) (T.arr 1 (f_mkLI r1).length (atL rowI (f_mkLI r1)))
          (setF (0 + x20.toNat) (2 + 0)
            (T.lent 1
              (setF (0 + x20.toNat) 1 (T.int IntKind.i64 (IntKind.i64.wrap (x4 + 1)))
                  (setF (0 + x20.toNat) 0 (T.int IntKind.i64 x4) fx2) (0 + x20.toNat) (2 + 0)).ln)
            (setF (0 + x20.toNat) 1 (T.int IntKind.i64 (IntKind.i64.wrap (x4 + 1)))
              (setF (0 + x20.toNat) 0 (T.int IntKind.i64 x4) fx2)))
          (0 + x20.toNat) (3 + 0)).ln.beq
    (f_mkLI r2).length &&
  ((0 + x20.toNat).blt nx2 && true && true)) <|
  gd (decide (0 ≤ x20) && (x20.toNat.blt l.length && true)) <|
  gd ((0 + x20.toNat).blt nx2 && true && true) <|
  K .normal (st_mkWsS_1 l k (IntKind.i64.wrap (f_ctLI r2 + 1)) (IntKind.i64.wrap (x20 + 1)) (nx2) (setF (0 + x20.toNat) 4 (T.int IntKind.i64 (f_ctLI r2))
  (setF (0 + x20.toNat) (3 + 0) (T.arr 1 (f_mkLI r2).length (atL rowI (f_mkLI r2)))
    (setF (0 + x20.toNat) (3 + 0)
      (T.lent 1
        (setF (0 + x20.toNat) (2 + 0) (T.arr 1 (f_mkLI r1).length (atL rowI (f_mkLI r1)))
            (setF (0 + x20.toNat) (2 + 0)
              (T.lent 1
                (setF (0 + x20.toNat) 1 (T.int IntKind.i64 (IntKind.i64.wrap (x4 + 1)))
                    (setF (0 + x20.toNat) 0 (T.int IntKind.i64 x4) fx2) (0 + x20.toNat) (2 + 0)).ln)
              (setF (0 + x20.toNat) 1 (T.int IntKind.i64 (IntKind.i64.wrap (x4 + 1)))
                (setF (0 + x20.toNat) 0 (T.int IntKind.i64 x4) fx2)))
            (0 + x20.toNat) (3 + 0)).ln)
      (setF (0 + x20.toNat) (2 + 0) (T.arr 1 (f_mkLI r1).length (atL rowI (f_mkLI r1)))
        (setF (0 + x20.toNat) (2 + 0)
          (T.lent 1
            (setF (0 + x20.toNat) 1 (T.int IntKind.i64 (IntKind.i64.wrap (x4 + 1)))
                (setF (0 + x20.toNat) 0 (T.int IntKind.i64 x4) fx2) (0 + x20.toNat) (2 + 0)).ln)
          (setF (0 + x20.toNat) 1 (T.int IntKind.i64 (IntKind.i64.wrap (x4 + 1)))
            (setF (0 + x20.toNat) 0 (T.int IntKind.i64 x4) fx2))))))))
 else
 K (.exit 0) (ex_mkWsS_1_1 l k x4 x20 nx2 fx2)) := by kernel_rfl
theorem post_mkWsS_1_1 (l : List Ws) (k : Int) (x4 : Int) (x20 : Int) (nx2 : Nat) (fx2 : Nat → Nat → T) (n : Nat) : contAt prog (tabS [(i_mkLI, e_mkLI)]) kp_mkWsS F_mkWsS ts_mkWsS [1, 0, 1, 0] [] n (.exit 0) (ex_mkWsS_1_1 l k x4 x20 nx2 fx2) = (
 some ([(false, [.tr true (T.int IntKind.i64 x4)])], [(false, [.tr true (.arr (5) (nx2) (fx2))]), (false, [])])) := by kernel_rfl
theorem pre_mkWsS (l : List Ws) (k : Int) (n : Nat) : body prog (tabS [(i_mkLI, e_mkLI)]) kp_mkWsS n F_mkWsS [lT (eL 5 Ws.cs l), aI k] = (
 loopAt prog (tabS [(i_mkLI, e_mkLI)]) kp_mkWsS F_mkWsS [1, 0, 1, 0] n n (st_mkWsS_1 l k (k) (0) (T.ln (eL 5 Ws.cs l)) (T.fn (eL 5 Ws.cs l))) (contAt prog (tabS [(i_mkLI, e_mkLI)]) kp_mkWsS F_mkWsS ts_mkWsS [1, 0, 1, 0] [] n)) := by kernel_rfl
theorem body_mkWsS (l : List Ws) (k : Int) (h : okh_WsS (l, k)) : body prog (tabS [(i_mkLI, e_mkLI)]) kp_mkWsS (l.length + 1) F_mkWsS (eam_WsS (l, k)) = some ([oT (.int .i64 (f_ctWsS (l, k)))], [oT (eL 5 Ws.cs (f_mkWsS (l, k))), nul]) := by
  obtain ⟨hl, hk0, hk1⟩ := h
  have hbm := bm
  dsimp only at hl hk0 hk1
  have hl' : l.length ≤ BM := hl.1
  unfold eam_WsS f_ctWsS f_mkWsS
  dsimp only
  rw [pre_mkWsS]
  have hst : st_mkWsS_1 l k k 0 l.length (atL Ws.cs l) = (fun i : Nat => st_mkWsS_1 l k (k + cntL c1_WsS (l.take i)) (i : Nat) l.length (atL Ws.cs (mkd m1_WsS c1_WsS l k i))) 0 := by simp [cntL, mkd_zero]
  refine Eq.trans (congrArg (fun s => loopAt prog _ _ _ _ _ _ s _) hst) ?_
  rw [forLoop l.length (fun i : Nat => st_mkWsS_1 l k (k + cntL c1_WsS (l.take i)) (i : Nat) l.length (atL Ws.cs (mkd m1_WsS c1_WsS l k i))) (ex_mkWsS_1_1 l k (k + cntL c1_WsS l) l.length l.length (atL Ws.cs (mk_WsS l k))) 0 (fun i K hi => ?_) (fun K => ?_) _ (Nat.le_refl _)]
  · rw [post_mkWsS_1_1]
    have := markL_len m1_WsS c1_WsS l k
    rw [eL_T, show (mk_WsS l k).length = l.length from this]
    rfl
  · have hx := List.getElem?_eq_getElem hi
    obtain ⟨x, hxe⟩ : ∃ x, x = l[i] := ⟨_, rfl⟩
    rw [← hxe] at hx
    have hxm : x ∈ l := List.mem_of_getElem? hx
    have hg := mkd_get m1_WsS c1_WsS l k hx
    have hc := cntL_take c1_WsS l hx
    have hcl := cntL_le c1_WsS l (i + 1)
    have hcx : c1_WsS x = 1 + 1 + cntL c1_LI x.tags + cntL c1_LI x.chunks + 1 := rfl
    have h0 := (hl.2 _ hxm).1
    have h1 := (hl.2 _ hxm).2
    rw [hc, round_mkWsS_1]
    have hms := mkd_set m1_WsS c1_WsS l k hx
    have hml : i < (mkd m1_WsS c1_WsS l k i).length := by rw [mkd_len _ _ _ _ (by omega)]; exact hi
    obtain ⟨k0, hk⟩ : ∃ k0, k0 = k + (cntL c1_WsS (l.take i) : Int) := ⟨_, rfl⟩
    have hk2 : k + ((cntL c1_WsS (l.take i) + c1_WsS x : Nat) : Int) = k0 + 1 + 1 + cntL c1_LI x.tags + cntL c1_LI x.chunks + 1 := by omega
    rw [hk2]
    rw [← hk] at hms ⊢
    have g0 : okh_LI (x.tags, k0 + 1 + 1) := ⟨h0, by dsimp only; omega, by dsimp only; omega⟩
    have g1 : okh_LI (x.chunks, k0 + 1 + 1 + cntL c1_LI x.tags) := ⟨h1, by dsimp only; omega, by dsimp only; omega⟩
    simp (disch := omega) only [lt_d, ge0_d, Int.toNat_natCast, blt_d, ble_self, beq_self, decide_true, cond_true, Bool.and_self, Bool.and_true, Bool.true_and, gd_true, Nat.zero_add, List.getD_cons_zero, List.getD_cons_succ, isI_int, toI_int, isB_bool, toB_bool, eL_T, arr_ln, arr_fn, arr_wd, arr_is, arr_get, hi, atL_of hg, Ws.cs, wrapI, wrapS, setF_d, and_self, if_true, if_false, true_and, false_and, and_true, and_false, Nat.add_zero, Nat.reduceEqDiff, Nat.reduceAdd, entK_of (dm_mkLI g0) (iv_mkLI g0), len_mkLI, d_mkLI, d_ctLI, entK_of (dm_mkLI g1) (iv_mkLI g1), len_mkLI, d_mkLI, d_ctLI]
    rw [← hms]
    congr 2
    refine set_atL hml fun j' k' => ?_
    by_cases e : j' = i
    · subst e
      rcases k' with _ | _ | _ | _ | _ | k' <;> simp [setF_d, Ws.cs, m1_WsS, atL_of hg, eL_T, len_mkLI]
    · simp [setF_d, e]
  · rw [round_mkWsS_1, mkd_all]
    simp only [lt_d, Nat.lt_irrefl, decide_false, cond_false, List.take_length]
    rfl
theorem s_mkWsS : EntOk prog i_mkWsS e_mkWsS := ent_ok eam_WsS_inj fun x hx =>
  body_sound (φ := (tabS [(i_mkLI, e_mkLI)])) (tabS_cons s_mkLI tabS_nil) mixed (kp := kp_mkWsS) (n := x.1.length + 1) func93 (c := bodyOf F_mkWsS) (by kernel_rfl) (body_mkWsS x.1 x.2 hx) (name_ok (by kernel_rfl))
theorem dm_mkWsS {l : List Ws} {k : Int} (h : okh_WsS (l, k)) : dom okh_WsS eam_WsS [(1, false, [C.tr true (T.arr 5 l.length (atL Ws.cs l))]), (0, false, [C.tr false (T.int IntKind.i64 k)])] = true := dom_ea (ea := eam_WsS) (x := (l, k)) h
theorem iv_mkWsS {l : List Ws} {k : Int} (h : okh_WsS (l, k)) : inv okh_WsS eam_WsS [(1, false, [C.tr true (T.arr 5 l.length (atL Ws.cs l))]), (0, false, [C.tr false (T.int IntKind.i64 k)])] = (l, k) := inv_ea eam_WsS_inj (x := (l, k)) h
theorem len_mkWsS (l : List Ws) (k : Int) : (mk_WsS l k).length = l.length := markL_len _ _ _ _
theorem d_mkWsS (l : List Ws) (k : Int) : f_mkWsS (l, k) = mk_WsS l k := rfl
theorem d_ctWsS (l : List Ws) (k : Int) : f_ctWsS (l, k) = k + cntL c1_WsS l := rfl
end Go.Mach.F
