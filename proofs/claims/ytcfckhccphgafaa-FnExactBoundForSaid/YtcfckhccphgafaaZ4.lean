/- Lemmas and definitions of the proof (Af Ag La Dd De Xi Wx Le Ah Ak). Conditions: none. -/
import Derived.Test.YtcfckhccphgafaaZ3
set_option linter.all false
namespace Go.Mach.F
open Go Go.Mach Go.Proofs.Try
--=set_option maxRecDepth 100000
def dbtOf (w : Wd) (k : Int) : Int := (dbtS (w.l.length + 1) w k []).1
def wsAt (w : Wd) (k : Int) : Ws := w.q.getD k.toNat ⟨0, 0, [], [], 0⟩
def dbtE (w : Wd) (x : Ws) (n : Nat) : Int := ((kids w.l x.first).take n).foldl (fun s k => IntKind.i64.wrap (s + dbtOf w k)) (stp w.c x)
def dbtAt (w : Wd) (k : Int) : Int := bif decide (0 ≤ k) && decide (k < (w.q.length : Int)) then dbtE w (wsAt w k) (kids w.l (wsAt w k).first).length else 0
def dbtN (w : Wd) : Nat → Int
  | 0 => 0
  | i + 1 => IntKind.i64.wrap (dbtN w i + dbtAt w i)
def debt (w : Wd) : Int := dbtN w w.q.length
def ok_iDof (x : Wd × Int) : Prop := x.1.l.length < LM ∧ dbI x.1.l ∧ inI x.2
def ea_iDof (x : Wd × Int) : List Arg := [aR x.1.cs, aI x.2]
def f_iDof (x : Wd × Int) : Int := dbtOf x.1 x.2
noncomputable def e_iDof : Ent := ent [] ok_iDof ea_iDof (erI 2) f_iDof
theorem ea_iDof_inj (x y : Wd × Int) (h : ea_iDof x = ea_iDof y) : x = y := by
  obtain ⟨w1, k1⟩ := x
  obtain ⟨w2, k2⟩ := y
  simp only [ea_iDof, List.cons.injEq, and_true, true_and] at h
  obtain ⟨e0, e1⟩ := h
  obtain rfl := Wd.cs_ext (aR_inj e0)
  obtain rfl := aI_inj e1
  rfl
theorem dm_iDof {w : Wd} {k : Int} (h : ok_iDof (w, k)) : dom ok_iDof ea_iDof [(0, true, [C.tr false (T.int IntKind.i64 w.c.chunks), C.tr false (T.int IntKind.i64 w.c.size), C.tr false (T.int IntKind.i64 w.c.slots), C.tr false (T.int IntKind.i64 w.c.tax), C.tr false (T.int IntKind.i64 w.c.slice), C.tr false (T.int IntKind.i64 w.c.gens), C.tr false (T.arr 1 w.p.mem.length (atL rowB w.p.mem)), C.tr false (T.arr 1 w.p.st.length (atL rowI w.p.st)), C.tr false (T.arr 1 w.p.own.length (atL rowI w.p.own)), C.tr false (T.arr 13 w.l.length (atL Nd.cs w.l)), C.tr false (T.arr 5 w.q.length (atL Ws.cs w.q)), C.tr false (T.arr 1 w.log.length (atL rowI w.log))]), (0, false, [C.tr false (T.int IntKind.i64 k)])] = true := dom_ea (ea := ea_iDof) (x := (w, k)) h
theorem iv_iDof {w : Wd} {k : Int} (h : ok_iDof (w, k)) : inv ok_iDof ea_iDof [(0, true, [C.tr false (T.int IntKind.i64 w.c.chunks), C.tr false (T.int IntKind.i64 w.c.size), C.tr false (T.int IntKind.i64 w.c.slots), C.tr false (T.int IntKind.i64 w.c.tax), C.tr false (T.int IntKind.i64 w.c.slice), C.tr false (T.int IntKind.i64 w.c.gens), C.tr false (T.arr 1 w.p.mem.length (atL rowB w.p.mem)), C.tr false (T.arr 1 w.p.st.length (atL rowI w.p.st)), C.tr false (T.arr 1 w.p.own.length (atL rowI w.p.own)), C.tr false (T.arr 13 w.l.length (atL Nd.cs w.l)), C.tr false (T.arr 5 w.q.length (atL Ws.cs w.q)), C.tr false (T.arr 1 w.log.length (atL rowI w.log))]), (0, false, [C.tr false (T.int IntKind.i64 k)])] = (w, k) := inv_ea ea_iDof_inj (x := (w, k)) h
def i_iDof : Nat := 131
noncomputable abbrev F_iDof : Func := f131
def kp_iDof : List (Nat × List Nat) := [(0, [4, 8, 9]), (1, [4, 8, 9, 36]), (2, [16]), (3, [16])]
theorem pre_iDof (w : Wd) (k : Int) (n : Nat) : body prog (tabS [(i_isSlot, e_isSlot), (i_dbt, e_dbt (w.l.length + 1))]) kp_iDof n F_iDof [aR w.cs, aI k] = (
 bif decide (0 ≤ k) then
  bif !decide (k ≤ IntKind.i64.wrap ((↑w.3.length : Int) - 1)) then
   some ([(false, [.tr true (T.int IntKind.i64 0)])], [(false, []), (false, [])])
  else
  gd (decide (0 ≤ (↑w.3.length : Int)) &&
  (decide ((↑w.3.length : Int) ≤ (↑w.3.length : Int)) &&
    (((↑w.3.length : Int).toNat * 1).ble 70368744177664 && (↑w.3.length : Int).toNat.ble 70368744177664))) <|
  gd ((↑w.3.length : Int).toNat.beq (↑w.3.length : Int).toNat && true) <|
  entK (ok_dbt (w.l.length + 1)) ea_dbt (f_dbt (w.l.length + 1)) [(0, true,
    [C.tr false (T.int IntKind.i64 w.c.1), C.tr false (T.int IntKind.i64 w.c.2),
      C.tr false (T.int IntKind.i64 w.c.3), C.tr false (T.int IntKind.i64 w.c.4),
      C.tr false (T.int IntKind.i64 w.c.5), C.tr false (T.int IntKind.i64 w.c.6), C.tr false (eL 1 rowB w.p.1),
      C.tr false (eL 1 rowI w.p.2), C.tr false (eL 1 rowI w.p.3), C.tr false (eL 13 Nd.cs w.3),
      C.tr false (eL 5 Ws.cs w.4), C.tr false (eL 1 rowI w.5)]),
  (0, false, [C.tr false (T.arr 1 1 (cutT 0 1 (rowsT [[T.int IntKind.i64 k]])))]),
  (1, false,
    [C.tr true
        (T.arr 1 (↑w.3.length : Int).toNat
          (cutT 0 (↑w.3.length : Int).toNat (zeroT prog 4)))])] fun (r1 : Int × List Bool) =>
  gd ((↑w.3.length : Int).toNat.beq r1.2.length && true) <|
  some ([(false, [.tr true (T.int IntKind.i64 r1.1)])], [(false, []), (false, [])])
 else
 some ([(false, [.tr true (T.int IntKind.i64 0)])], [(false, []), (false, [])])) := by kernel_rfl
def ok_sDof (x : Wd × Int) : Prop := x.1.l.length < LM ∧ dbI x.1.l ∧ inI x.2
def ea_sDof (x : Wd × Int) : List Arg := [aR x.1.cs, aI x.2]
def f_sDof (x : Wd × Int) : Int := dbtOf x.1 x.2
noncomputable def e_sDof : Ent := ent [] ok_sDof ea_sDof (erI 2) f_sDof
theorem ea_sDof_inj (x y : Wd × Int) (h : ea_sDof x = ea_sDof y) : x = y := by
  obtain ⟨w1, k1⟩ := x
  obtain ⟨w2, k2⟩ := y
  simp only [ea_sDof, List.cons.injEq, and_true, true_and] at h
  obtain ⟨e0, e1⟩ := h
  obtain rfl := Wd.cs_ext (aR_inj e0)
  obtain rfl := aI_inj e1
  rfl
theorem dm_sDof {w : Wd} {k : Int} (h : ok_sDof (w, k)) : dom ok_sDof ea_sDof [(0, true, [C.tr false (T.int IntKind.i64 w.c.chunks), C.tr false (T.int IntKind.i64 w.c.size), C.tr false (T.int IntKind.i64 w.c.slots), C.tr false (T.int IntKind.i64 w.c.tax), C.tr false (T.int IntKind.i64 w.c.slice), C.tr false (T.int IntKind.i64 w.c.gens), C.tr false (T.arr 1 w.p.mem.length (atL rowB w.p.mem)), C.tr false (T.arr 1 w.p.st.length (atL rowI w.p.st)), C.tr false (T.arr 1 w.p.own.length (atL rowI w.p.own)), C.tr false (T.arr 13 w.l.length (atL Nd.cs w.l)), C.tr false (T.arr 5 w.q.length (atL Ws.cs w.q)), C.tr false (T.arr 1 w.log.length (atL rowI w.log))]), (0, false, [C.tr false (T.int IntKind.i64 k)])] = true := dom_ea (ea := ea_sDof) (x := (w, k)) h
theorem iv_sDof {w : Wd} {k : Int} (h : ok_sDof (w, k)) : inv ok_sDof ea_sDof [(0, true, [C.tr false (T.int IntKind.i64 w.c.chunks), C.tr false (T.int IntKind.i64 w.c.size), C.tr false (T.int IntKind.i64 w.c.slots), C.tr false (T.int IntKind.i64 w.c.tax), C.tr false (T.int IntKind.i64 w.c.slice), C.tr false (T.int IntKind.i64 w.c.gens), C.tr false (T.arr 1 w.p.mem.length (atL rowB w.p.mem)), C.tr false (T.arr 1 w.p.st.length (atL rowI w.p.st)), C.tr false (T.arr 1 w.p.own.length (atL rowI w.p.own)), C.tr false (T.arr 13 w.l.length (atL Nd.cs w.l)), C.tr false (T.arr 5 w.q.length (atL Ws.cs w.q)), C.tr false (T.arr 1 w.log.length (atL rowI w.log))]), (0, false, [C.tr false (T.int IntKind.i64 k)])] = (w, k) := inv_ea ea_sDof_inj (x := (w, k)) h
def i_sDof : Nat := 128
noncomputable abbrev F_sDof : Func := f128
def kp_sDof : List (Nat × List Nat) := [(0, [4, 8, 9]), (1, [20]), (2, [16])]
theorem pre_sDof (w : Wd) (k : Int) (n : Nat) : body prog (tabS [(i_dbs, e_dbs (w.l.length + 1))]) kp_sDof n F_sDof [aR w.cs, aI k] = (
 entK (ok_dbs (w.l.length + 1)) ea_dbs (f_dbs (w.l.length + 1)) [(0, true,
    [C.tr false (T.int IntKind.i64 w.c.1), C.tr false (T.int IntKind.i64 w.c.2),
      C.tr false (T.int IntKind.i64 w.c.3), C.tr false (T.int IntKind.i64 w.c.4),
      C.tr false (T.int IntKind.i64 w.c.5), C.tr false (T.int IntKind.i64 w.c.6), C.tr false (eL 1 rowB w.p.1),
      C.tr false (eL 1 rowI w.p.2), C.tr false (eL 1 rowI w.p.3), C.tr false (eL 13 Nd.cs w.3),
      C.tr false (eL 5 Ws.cs w.4), C.tr false (eL 1 rowI w.5)]),
  (0, false, [C.tr false (T.int IntKind.i64 k)]), (3, false, [C.tr true (T.arr 1 0 (rowsT []))])] fun (r1 : Int × List Int) =>
 gd (r1.2.length.ble r1.2.length && true) <|
 some ([(false, [.tr true (T.int IntKind.i64 r1.1)])], [(false, []), (false, [])])) := by kernel_rfl
def ok_iDat (x : Wd × Int) : Prop := (x.1.l.length < LM ∧ dbI x.1.l) ∧ x.1.q.length ≤ LM ∧ (∀ z ∈ x.1.q, inI z.first ∧ z.tags.length ≤ LM ∧ z.chunks.length ≤ LM)
def ea_iDat (x : Wd × Int) : List Arg := [aR x.1.cs, aI x.2]
def f_iDat (x : Wd × Int) : Int := dbtAt x.1 x.2
noncomputable def e_iDat : Ent := ent [] ok_iDat ea_iDat (erI 2) f_iDat
theorem ea_iDat_inj (x y : Wd × Int) (h : ea_iDat x = ea_iDat y) : x = y := by
  obtain ⟨w1, k1⟩ := x
  obtain ⟨w2, k2⟩ := y
  simp only [ea_iDat, List.cons.injEq, and_true, true_and] at h
  obtain ⟨e0, e1⟩ := h
  obtain rfl := Wd.cs_ext (aR_inj e0)
  obtain rfl := aI_inj e1
  rfl
theorem dm_iDat {w : Wd} {k : Int} (h : ok_iDat (w, k)) : dom ok_iDat ea_iDat [(0, true, [C.tr false (T.int IntKind.i64 w.c.chunks), C.tr false (T.int IntKind.i64 w.c.size), C.tr false (T.int IntKind.i64 w.c.slots), C.tr false (T.int IntKind.i64 w.c.tax), C.tr false (T.int IntKind.i64 w.c.slice), C.tr false (T.int IntKind.i64 w.c.gens), C.tr false (T.arr 1 w.p.mem.length (atL rowB w.p.mem)), C.tr false (T.arr 1 w.p.st.length (atL rowI w.p.st)), C.tr false (T.arr 1 w.p.own.length (atL rowI w.p.own)), C.tr false (T.arr 13 w.l.length (atL Nd.cs w.l)), C.tr false (T.arr 5 w.q.length (atL Ws.cs w.q)), C.tr false (T.arr 1 w.log.length (atL rowI w.log))]), (0, false, [C.tr false (T.int IntKind.i64 k)])] = true := dom_ea (ea := ea_iDat) (x := (w, k)) h
theorem iv_iDat {w : Wd} {k : Int} (h : ok_iDat (w, k)) : inv ok_iDat ea_iDat [(0, true, [C.tr false (T.int IntKind.i64 w.c.chunks), C.tr false (T.int IntKind.i64 w.c.size), C.tr false (T.int IntKind.i64 w.c.slots), C.tr false (T.int IntKind.i64 w.c.tax), C.tr false (T.int IntKind.i64 w.c.slice), C.tr false (T.int IntKind.i64 w.c.gens), C.tr false (T.arr 1 w.p.mem.length (atL rowB w.p.mem)), C.tr false (T.arr 1 w.p.st.length (atL rowI w.p.st)), C.tr false (T.arr 1 w.p.own.length (atL rowI w.p.own)), C.tr false (T.arr 13 w.l.length (atL Nd.cs w.l)), C.tr false (T.arr 5 w.q.length (atL Ws.cs w.q)), C.tr false (T.arr 1 w.log.length (atL rowI w.log))]), (0, false, [C.tr false (T.int IntKind.i64 k)])] = (w, k) := inv_ea ea_iDat_inj (x := (w, k)) h
def i_iDat : Nat := 87
noncomputable abbrev F_iDat : Func := f87
def kp_iDat : List (Nat × List Nat) := [(0, [4, 8, 9]), (1, [4, 8, 9, 56]), (2, [16]), (3, [4, 8, 9, 20]), (4, [8, 9, 20, 124, 128, 132]), (5, [8, 9, 20, 124, 128, 132, 136]), (6, [8, 9, 20, 28, 124, 128, 132]), (7, [8, 9, 20, 124, 128, 132]), (8, [8, 9, 20, 124, 128, 132]), (9, [16])]
def ts_iDat : List Nat := [0, 0]
def st_iDat_1 (w : Wd) (k : Int) (r2 : List Int) (x20 : Int) (x132 : Int) : St := [(8, ⟨z0, [(false, [(C.pt (Pt.ptr 9 0 [] 12 0 0))])]⟩), (9, ⟨z0, [(true, [.tr true (T.int IntKind.i64 w.c.1), .tr true (T.int IntKind.i64 w.c.2), .tr true (T.int IntKind.i64 w.c.3), .tr true (T.int IntKind.i64 w.c.4), .tr true (T.int IntKind.i64 w.c.5), .tr true (T.int IntKind.i64 w.c.6), .tr false (eL 1 rowB w.p.1), .tr false (eL 1 rowI w.p.2), .tr false (eL 1 rowI w.p.3), .tr false (eL 13 Nd.cs w.3), .tr false (eL 5 Ws.cs w.4), .tr false (eL 1 rowI w.5)])]⟩), (20, ⟨z0, [(false, [.tr true (T.int IntKind.i64 x20)])]⟩), (124, ⟨z0, [(false, [.tr true (.arr (1) (r2.length) (atL rowI r2))])]⟩), (128, ⟨z0, [(false, [.tr true (T.int IntKind.i64 (↑r2.length : Int))])]⟩), (132, ⟨z0, [(false, [.tr true (T.int IntKind.i64 x132)])]⟩)]
def ex_iDat_1_1 (w : Wd) (k : Int) (r2 : List Int) (x20 : Int) (x132 : Int) : St := [(8, ⟨z0, [(false, [(C.pt (Pt.ptr 9 0 [] 12 0 0))])]⟩), (9, ⟨z0, [(true, [.tr true (T.int IntKind.i64 w.c.1), .tr true (T.int IntKind.i64 w.c.2), .tr true (T.int IntKind.i64 w.c.3), .tr true (T.int IntKind.i64 w.c.4), .tr true (T.int IntKind.i64 w.c.5), .tr true (T.int IntKind.i64 w.c.6), .tr false (eL 1 rowB w.p.1), .tr false (eL 1 rowI w.p.2), .tr false (eL 1 rowI w.p.3), .tr false (eL 13 Nd.cs w.3), .tr false (eL 5 Ws.cs w.4), .tr false (eL 1 rowI w.5)])]⟩), (20, ⟨z0, [(false, [.tr true (T.int IntKind.i64 x20)])]⟩), (124, ⟨z0, [(false, [.tr true (.arr (1) (r2.length) (atL rowI r2))])]⟩), (128, ⟨z0, [(false, [.tr true (T.int IntKind.i64 (↑r2.length : Int))])]⟩), (132, ⟨z0, [(false, [.tr true (T.int IntKind.i64 x132)])]⟩), (136, ⟨z0, []⟩)]
theorem round_iDat_1 (w : Wd) (k : Int) (r2 : List Int) (x20 : Int) (x132 : Int) (n : Nat) (K : Ex → St → Res) : roundAt prog (tabS [(i_within, e_within), (i_iStp, e_iStp), (i_iKid, e_iKid), (i_iDof, e_iDof)]) kp_iDat F_iDat [1, 1, 1, 0, 1, 0] n (st_iDat_1 w k r2 x20 x132) K = (
 bif decide (x132 < (↑r2.length : Int)) then
  gd (decide (0 ≤ x132) && (x132.toNat.blt r2.length && true)) <|
  gd ((0 + x132.toNat).blt r2.length && true && T.isI IntKind.i64 (atL rowI r2 (0 + x132.toNat) 0)) <|
  entK ok_iDof ea_iDof (f_iDof) [(0, true,
    [C.tr false (T.int IntKind.i64 w.c.1), C.tr false (T.int IntKind.i64 w.c.2),
      C.tr false (T.int IntKind.i64 w.c.3), C.tr false (T.int IntKind.i64 w.c.4),
      C.tr false (T.int IntKind.i64 w.c.5), C.tr false (T.int IntKind.i64 w.c.6), C.tr false (eL 1 rowB w.p.1),
      C.tr false (eL 1 rowI w.p.2), C.tr false (eL 1 rowI w.p.3), C.tr false (eL 13 Nd.cs w.3),
      C.tr false (eL 5 Ws.cs w.4), C.tr false (eL 1 rowI w.5)]),
  (0, false, [C.tr false (T.int IntKind.i64 (atL rowI r2 (0 + x132.toNat) 0).toI)])] fun (r3 : Int) =>
  K .normal (st_iDat_1 w k r2 (IntKind.i64.wrap (x20 + r3)) (IntKind.i64.wrap (x132 + 1)))
 else
 K (.exit 0) (ex_iDat_1_1 w k r2 x20 x132)) := by kernel_rfl
theorem post_iDat_1_1 (w : Wd) (k : Int) (r2 : List Int) (x20 : Int) (x132 : Int) (n : Nat) : contAt prog (tabS [(i_within, e_within), (i_iStp, e_iStp), (i_iKid, e_iKid), (i_iDof, e_iDof)]) kp_iDat F_iDat ts_iDat [1, 1, 1, 0, 1, 0] [] n (.exit 0) (ex_iDat_1_1 w k r2 x20 x132) = (
 some ([(false, [.tr true (T.int IntKind.i64 x20)])], [(false, []), (false, [])])) := by kernel_rfl
theorem pre_iDat (w : Wd) (k : Int) (n : Nat) : body prog (tabS [(i_within, e_within), (i_iStp, e_iStp), (i_iKid, e_iKid), (i_iDof, e_iDof)]) kp_iDat n F_iDat [aR w.cs, aI k] = (
 bif decide (0 ≤ k) then
  bif !decide (k ≤ IntKind.i64.wrap ((↑w.4.length : Int) - 1)) then
   some ([(false, [.tr true (T.int IntKind.i64 0)])], [(false, []), (false, [])])
  else
  gd (decide (0 ≤ k) && (k.toNat.blt w.4.length && true)) <|
  gd (T.isI IntKind.i64 (atL Ws.cs w.4 k.toNat 0) && T.isI IntKind.i64 (atL Ws.cs w.4 k.toNat 1) &&
      ((atL Ws.cs w.4 k.toNat 2).isArr && (atL Ws.cs w.4 k.toNat 2).wd.beq 1) &&
    ((atL Ws.cs w.4 k.toNat 3).isArr && (atL Ws.cs w.4 k.toNat 3).wd.beq 1) &&
  T.isI IntKind.i64 (atL Ws.cs w.4 k.toNat 4)) <|
  entK ok_iStp ea_iStp (f_iStp) [(0, true,
    [C.tr false (T.int IntKind.i64 w.c.1), C.tr false (T.int IntKind.i64 w.c.2),
      C.tr false (T.int IntKind.i64 w.c.3), C.tr false (T.int IntKind.i64 w.c.4),
      C.tr false (T.int IntKind.i64 w.c.5), C.tr false (T.int IntKind.i64 w.c.6)]),
  (0, true,
    [C.tr false (T.int IntKind.i64 (atL Ws.cs w.4 k.toNat 0).toI),
      C.tr false (T.int IntKind.i64 (atL Ws.cs w.4 k.toNat 1).toI),
      C.tr false (T.arr 1 (atL Ws.cs w.4 k.toNat 2).ln (atL Ws.cs w.4 k.toNat 2).fn),
      C.tr false (T.arr 1 (atL Ws.cs w.4 k.toNat 3).ln (atL Ws.cs w.4 k.toNat 3).fn),
      C.tr false (T.int IntKind.i64 (atL Ws.cs w.4 k.toNat 4).toI)])] fun (r1 : Int) =>
  gd (decide (0 ≤ k) && (k.toNat.blt w.4.length && true)) <|
  gd (T.isI IntKind.i64 (atL Ws.cs w.4 k.toNat 1)) <|
  entK ok_iKid ea_iKid (f_iKid) [(0, false, [C.tr false (eL 13 Nd.cs w.3)]),
  (0, false, [C.tr false (T.int IntKind.i64 (atL Ws.cs w.4 k.toNat 1).toI)])] fun (r2 : List Int) =>
  loopAt prog (tabS [(i_within, e_within), (i_iStp, e_iStp), (i_iKid, e_iKid), (i_iDof, e_iDof)]) kp_iDat F_iDat [1, 1, 1, 0, 1, 0] n n (st_iDat_1 w k r2 r1 (0)) (contAt prog (tabS [(i_within, e_within), (i_iStp, e_iStp), (i_iKid, e_iKid), (i_iDof, e_iDof)]) kp_iDat F_iDat ts_iDat [1, 1, 1, 0, 1, 0] [] n)
 else
 some ([(false, [.tr true (T.int IntKind.i64 0)])], [(false, []), (false, [])])) := by kernel_rfl
def ok_iDebt (x : Wd) : Prop := (x.l.length < LM ∧ dbI x.l) ∧ x.q.length ≤ LM ∧ (∀ z ∈ x.q, inI z.first ∧ z.tags.length ≤ LM ∧ z.chunks.length ≤ LM)
def ea_iDebt (x : Wd) : List Arg := [aR x.cs]
def f_iDebt (x : Wd) : Int := debt x
noncomputable def e_iDebt : Ent := ent [] ok_iDebt ea_iDebt (erI 1) f_iDebt
theorem ea_iDebt_inj (x y : Wd) (h : ea_iDebt x = ea_iDebt y) : x = y := by
  simp only [ea_iDebt, List.cons.injEq, and_true, true_and] at h
  exact Wd.cs_ext (aR_inj h)
theorem dm_iDebt {w : Wd} (h : ok_iDebt w) : dom ok_iDebt ea_iDebt [(0, true, [C.tr false (T.int IntKind.i64 w.c.chunks), C.tr false (T.int IntKind.i64 w.c.size), C.tr false (T.int IntKind.i64 w.c.slots), C.tr false (T.int IntKind.i64 w.c.tax), C.tr false (T.int IntKind.i64 w.c.slice), C.tr false (T.int IntKind.i64 w.c.gens), C.tr false (T.arr 1 w.p.mem.length (atL rowB w.p.mem)), C.tr false (T.arr 1 w.p.st.length (atL rowI w.p.st)), C.tr false (T.arr 1 w.p.own.length (atL rowI w.p.own)), C.tr false (T.arr 13 w.l.length (atL Nd.cs w.l)), C.tr false (T.arr 5 w.q.length (atL Ws.cs w.q)), C.tr false (T.arr 1 w.log.length (atL rowI w.log))])] = true := dom_ea (ea := ea_iDebt) (x := w) h
theorem iv_iDebt {w : Wd} (h : ok_iDebt w) : inv ok_iDebt ea_iDebt [(0, true, [C.tr false (T.int IntKind.i64 w.c.chunks), C.tr false (T.int IntKind.i64 w.c.size), C.tr false (T.int IntKind.i64 w.c.slots), C.tr false (T.int IntKind.i64 w.c.tax), C.tr false (T.int IntKind.i64 w.c.slice), C.tr false (T.int IntKind.i64 w.c.gens), C.tr false (T.arr 1 w.p.mem.length (atL rowB w.p.mem)), C.tr false (T.arr 1 w.p.st.length (atL rowI w.p.st)), C.tr false (T.arr 1 w.p.own.length (atL rowI w.p.own)), C.tr false (T.arr 13 w.l.length (atL Nd.cs w.l)), C.tr false (T.arr 5 w.q.length (atL Ws.cs w.q)), C.tr false (T.arr 1 w.log.length (atL rowI w.log))])] = w := inv_ea ea_iDebt_inj (x := w) h
def i_iDebt : Nat := 43
noncomputable abbrev F_iDebt : Func := f43
def kp_iDebt : List (Nat × List Nat) := [(0, [4, 5]), (1, [4, 5, 12]), (2, [4, 5, 12, 28, 32]), (3, [4, 5, 12, 28, 32, 36]), (4, [4, 5, 12, 16, 28, 32]), (5, [4, 5, 12, 28, 32]), (6, [4, 5, 12, 28, 32]), (7, [8])]
def ts_iDebt : List Nat := [0]
def st_iDebt_1 (w : Wd) (x12 : Int) (x32 : Int) : St := [(4, ⟨z0, [(false, [(C.pt (Pt.ptr 5 0 [] 12 0 0))])]⟩), (5, ⟨z0, [(true, [.tr true (T.int IntKind.i64 w.c.1), .tr true (T.int IntKind.i64 w.c.2), .tr true (T.int IntKind.i64 w.c.3), .tr true (T.int IntKind.i64 w.c.4), .tr true (T.int IntKind.i64 w.c.5), .tr true (T.int IntKind.i64 w.c.6), .tr false (eL 1 rowB w.p.1), .tr false (eL 1 rowI w.p.2), .tr false (eL 1 rowI w.p.3), .tr false (eL 13 Nd.cs w.3), .tr false (eL 5 Ws.cs w.4), .tr false (eL 1 rowI w.5)])]⟩), (12, ⟨z0, [(false, [.tr true (T.int IntKind.i64 x12)])]⟩), (28, ⟨z0, [(false, [.tr true (T.int IntKind.i64 (↑w.4.length : Int))])]⟩), (32, ⟨z0, [(false, [.tr true (T.int IntKind.i64 x32)])]⟩)]
def ex_iDebt_1_1 (w : Wd) (x12 : Int) (x32 : Int) : St := [(4, ⟨z0, [(false, [(C.pt (Pt.ptr 5 0 [] 12 0 0))])]⟩), (5, ⟨z0, [(true, [.tr true (T.int IntKind.i64 w.c.1), .tr true (T.int IntKind.i64 w.c.2), .tr true (T.int IntKind.i64 w.c.3), .tr true (T.int IntKind.i64 w.c.4), .tr true (T.int IntKind.i64 w.c.5), .tr true (T.int IntKind.i64 w.c.6), .tr false (eL 1 rowB w.p.1), .tr false (eL 1 rowI w.p.2), .tr false (eL 1 rowI w.p.3), .tr false (eL 13 Nd.cs w.3), .tr false (eL 5 Ws.cs w.4), .tr false (eL 1 rowI w.5)])]⟩), (12, ⟨z0, [(false, [.tr true (T.int IntKind.i64 x12)])]⟩), (28, ⟨z0, [(false, [.tr true (T.int IntKind.i64 (↑w.4.length : Int))])]⟩), (32, ⟨z0, [(false, [.tr true (T.int IntKind.i64 x32)])]⟩), (36, ⟨z0, []⟩)]
theorem round_iDebt_1 (w : Wd) (x12 : Int) (x32 : Int) (n : Nat) (K : Ex → St → Res) : roundAt prog (tabS [(i_iDat, e_iDat)]) kp_iDebt F_iDebt [1, 1, 0, 1, 0] n (st_iDebt_1 w x12 x32) K = (
 bif decide (x32 < (↑w.4.length : Int)) then
  entK ok_iDat ea_iDat (f_iDat) [(0, true,
    [C.tr false (T.int IntKind.i64 w.c.1), C.tr false (T.int IntKind.i64 w.c.2),
      C.tr false (T.int IntKind.i64 w.c.3), C.tr false (T.int IntKind.i64 w.c.4),
      C.tr false (T.int IntKind.i64 w.c.5), C.tr false (T.int IntKind.i64 w.c.6), C.tr false (eL 1 rowB w.p.1),
      C.tr false (eL 1 rowI w.p.2), C.tr false (eL 1 rowI w.p.3), C.tr false (eL 13 Nd.cs w.3),
      C.tr false (eL 5 Ws.cs w.4), C.tr false (eL 1 rowI w.5)]),
  (0, false, [C.tr false (T.int IntKind.i64 x32)])] fun (r1 : Int) =>
  K .normal (st_iDebt_1 w (IntKind.i64.wrap (x12 + r1)) (IntKind.i64.wrap (x32 + 1)))
 else
 K (.exit 0) (ex_iDebt_1_1 w x12 x32)) := by kernel_rfl
theorem post_iDebt_1_1 (w : Wd) (x12 : Int) (x32 : Int) (n : Nat) : contAt prog (tabS [(i_iDat, e_iDat)]) kp_iDebt F_iDebt ts_iDebt [1, 1, 0, 1, 0] [] n (.exit 0) (ex_iDebt_1_1 w x12 x32) = (
 some ([(false, [.tr true (T.int IntKind.i64 x12)])], [(false, [])])) := by kernel_rfl
theorem pre_iDebt (w : Wd) (n : Nat) : body prog (tabS [(i_iDat, e_iDat)]) kp_iDebt n F_iDebt [aR w.cs] = (
 loopAt prog (tabS [(i_iDat, e_iDat)]) kp_iDebt F_iDebt [1, 1, 0, 1, 0] n n (st_iDebt_1 w (0) (0)) (contAt prog (tabS [(i_iDat, e_iDat)]) kp_iDebt F_iDebt ts_iDebt [1, 1, 0, 1, 0] [] n)) := by kernel_rfl
def i_iSm : Nat := 49
noncomputable abbrev F_iSm : Func := f49
def kp_iSm : List (Nat × List Nat) := [(0, [4, 5]), (1, [8])]
noncomputable def e_iSm : Ent := inl [] prog (tabS []) kp_iSm 0 F_iSm
theorem s_iSm : EntOk prog i_iSm e_iSm := inl_ok tabS_nil mixed (c := bodyOf F_iSm) func49 (by kernel_rfl) (name_ok (by kernel_rfl))
def ok_iBoundFor (x : Wd) : Prop := (x.l.length < LM ∧ dbI x.l) ∧ x.q.length ≤ LM ∧ (∀ z ∈ x.q, inI z.first ∧ z.tags.length ≤ LM ∧ z.chunks.length ≤ LM)
def ea_iBoundFor (x : Wd) : List Arg := [aR x.cs]
def f_iBoundFor (x : Wd) : Int := IntKind.i64.wrap (IntKind.i64.wrap (4 + x.c.tax) + debt x)
noncomputable def e_iBoundFor : Ent := ent [] ok_iBoundFor ea_iBoundFor (erI 1) f_iBoundFor
theorem ea_iBoundFor_inj (x y : Wd) (h : ea_iBoundFor x = ea_iBoundFor y) : x = y := by
  simp only [ea_iBoundFor, List.cons.injEq, and_true, true_and] at h
  exact Wd.cs_ext (aR_inj h)
theorem dm_iBoundFor {w : Wd} (h : ok_iBoundFor w) : dom ok_iBoundFor ea_iBoundFor [(0, true, [C.tr false (T.int IntKind.i64 w.c.chunks), C.tr false (T.int IntKind.i64 w.c.size), C.tr false (T.int IntKind.i64 w.c.slots), C.tr false (T.int IntKind.i64 w.c.tax), C.tr false (T.int IntKind.i64 w.c.slice), C.tr false (T.int IntKind.i64 w.c.gens), C.tr false (T.arr 1 w.p.mem.length (atL rowB w.p.mem)), C.tr false (T.arr 1 w.p.st.length (atL rowI w.p.st)), C.tr false (T.arr 1 w.p.own.length (atL rowI w.p.own)), C.tr false (T.arr 13 w.l.length (atL Nd.cs w.l)), C.tr false (T.arr 5 w.q.length (atL Ws.cs w.q)), C.tr false (T.arr 1 w.log.length (atL rowI w.log))])] = true := dom_ea (ea := ea_iBoundFor) (x := w) h
theorem iv_iBoundFor {w : Wd} (h : ok_iBoundFor w) : inv ok_iBoundFor ea_iBoundFor [(0, true, [C.tr false (T.int IntKind.i64 w.c.chunks), C.tr false (T.int IntKind.i64 w.c.size), C.tr false (T.int IntKind.i64 w.c.slots), C.tr false (T.int IntKind.i64 w.c.tax), C.tr false (T.int IntKind.i64 w.c.slice), C.tr false (T.int IntKind.i64 w.c.gens), C.tr false (T.arr 1 w.p.mem.length (atL rowB w.p.mem)), C.tr false (T.arr 1 w.p.st.length (atL rowI w.p.st)), C.tr false (T.arr 1 w.p.own.length (atL rowI w.p.own)), C.tr false (T.arr 13 w.l.length (atL Nd.cs w.l)), C.tr false (T.arr 5 w.q.length (atL Ws.cs w.q)), C.tr false (T.arr 1 w.log.length (atL rowI w.log))])] = w := inv_ea ea_iBoundFor_inj (x := w) h
theorem d_iBoundFor (w : Wd) : f_iBoundFor w = IntKind.i64.wrap (IntKind.i64.wrap (4 + w.c.tax) + debt w) := rfl
def i_iBoundFor : Nat := 14
noncomputable abbrev F_iBoundFor : Func := f14
def kp_iBoundFor : List (Nat × List Nat) := [(0, [4, 5]), (1, [8])]
theorem pre_iBoundFor (w : Wd) (n : Nat) : body prog (tabS [(i_iDebt, e_iDebt), (i_iSm, e_iSm)]) kp_iBoundFor n F_iBoundFor [aR w.cs] = (
 entK ok_iDebt ea_iDebt (f_iDebt) [(0, true,
    [C.tr false (T.int IntKind.i64 w.c.1), C.tr false (T.int IntKind.i64 w.c.2),
      C.tr false (T.int IntKind.i64 w.c.3), C.tr false (T.int IntKind.i64 w.c.4),
      C.tr false (T.int IntKind.i64 w.c.5), C.tr false (T.int IntKind.i64 w.c.6), C.tr false (eL 1 rowB w.p.1),
      C.tr false (eL 1 rowI w.p.2), C.tr false (eL 1 rowI w.p.3), C.tr false (eL 13 Nd.cs w.3),
      C.tr false (eL 5 Ws.cs w.4), C.tr false (eL 1 rowI w.5)])] fun (r1 : Int) =>
 some ([(false, [.tr true (T.int IntKind.i64 (IntKind.i64.wrap (IntKind.i64.wrap (4 + w.c.4) + r1)))])], [(false, [])])) := by kernel_rfl
def ok_sDat (x : Wd × Int) : Prop := (x.1.l.length < LM ∧ dbI x.1.l) ∧ x.1.q.length ≤ LM ∧ (∀ z ∈ x.1.q, inI z.first ∧ z.tags.length ≤ LM ∧ z.chunks.length ≤ LM)
def ea_sDat (x : Wd × Int) : List Arg := [aR x.1.cs, aI x.2]
def f_sDat (x : Wd × Int) : Int := dbtAt x.1 x.2
noncomputable def e_sDat : Ent := ent [] ok_sDat ea_sDat (erI 2) f_sDat
theorem ea_sDat_inj (x y : Wd × Int) (h : ea_sDat x = ea_sDat y) : x = y := by
  obtain ⟨w1, k1⟩ := x
  obtain ⟨w2, k2⟩ := y
  simp only [ea_sDat, List.cons.injEq, and_true, true_and] at h
  obtain ⟨e0, e1⟩ := h
  obtain rfl := Wd.cs_ext (aR_inj e0)
  obtain rfl := aI_inj e1
  rfl
theorem dm_sDat {w : Wd} {k : Int} (h : ok_sDat (w, k)) : dom ok_sDat ea_sDat [(0, true, [C.tr false (T.int IntKind.i64 w.c.chunks), C.tr false (T.int IntKind.i64 w.c.size), C.tr false (T.int IntKind.i64 w.c.slots), C.tr false (T.int IntKind.i64 w.c.tax), C.tr false (T.int IntKind.i64 w.c.slice), C.tr false (T.int IntKind.i64 w.c.gens), C.tr false (T.arr 1 w.p.mem.length (atL rowB w.p.mem)), C.tr false (T.arr 1 w.p.st.length (atL rowI w.p.st)), C.tr false (T.arr 1 w.p.own.length (atL rowI w.p.own)), C.tr false (T.arr 13 w.l.length (atL Nd.cs w.l)), C.tr false (T.arr 5 w.q.length (atL Ws.cs w.q)), C.tr false (T.arr 1 w.log.length (atL rowI w.log))]), (0, false, [C.tr false (T.int IntKind.i64 k)])] = true := dom_ea (ea := ea_sDat) (x := (w, k)) h
theorem iv_sDat {w : Wd} {k : Int} (h : ok_sDat (w, k)) : inv ok_sDat ea_sDat [(0, true, [C.tr false (T.int IntKind.i64 w.c.chunks), C.tr false (T.int IntKind.i64 w.c.size), C.tr false (T.int IntKind.i64 w.c.slots), C.tr false (T.int IntKind.i64 w.c.tax), C.tr false (T.int IntKind.i64 w.c.slice), C.tr false (T.int IntKind.i64 w.c.gens), C.tr false (T.arr 1 w.p.mem.length (atL rowB w.p.mem)), C.tr false (T.arr 1 w.p.st.length (atL rowI w.p.st)), C.tr false (T.arr 1 w.p.own.length (atL rowI w.p.own)), C.tr false (T.arr 13 w.l.length (atL Nd.cs w.l)), C.tr false (T.arr 5 w.q.length (atL Ws.cs w.q)), C.tr false (T.arr 1 w.log.length (atL rowI w.log))]), (0, false, [C.tr false (T.int IntKind.i64 k)])] = (w, k) := inv_ea ea_sDat_inj (x := (w, k)) h
def i_sDat : Nat := 82
noncomputable abbrev F_sDat : Func := f82
def kp_sDat : List (Nat × List Nat) := [(0, [4, 8, 9]), (1, [4, 8, 9, 56]), (2, [16]), (3, [4, 8, 9, 20]), (4, [8, 9, 20, 24]), (5, [8, 9, 20, 24, 28]), (6, [8, 9, 20, 24, 28, 140]), (7, [8, 9, 20, 24, 28]), (8, [8, 9, 20, 24, 28]), (9, [16])]
def ts_sDat : List Nat := [0, 0]
def st_sDat_1 (w : Wd) (k : Int) (r2 : List Int) (x20 : Int) (x28 : Int) : St := [(8, ⟨z0, [(false, [(C.pt (Pt.ptr 9 0 [] 12 0 0))])]⟩), (9, ⟨z0, [(true, [.tr true (T.int IntKind.i64 w.c.1), .tr true (T.int IntKind.i64 w.c.2), .tr true (T.int IntKind.i64 w.c.3), .tr true (T.int IntKind.i64 w.c.4), .tr true (T.int IntKind.i64 w.c.5), .tr true (T.int IntKind.i64 w.c.6), .tr false (eL 1 rowB w.p.1), .tr false (eL 1 rowI w.p.2), .tr false (eL 1 rowI w.p.3), .tr false (eL 13 Nd.cs w.3), .tr false (eL 5 Ws.cs w.4), .tr false (eL 1 rowI w.5)])]⟩), (20, ⟨z0, [(false, [.tr true (T.int IntKind.i64 x20)])]⟩), (24, ⟨z0, [(false, [.tr true (.arr (1) (r2.length) (atL rowI r2))])]⟩), (28, ⟨z0, [(false, [.tr true (T.int IntKind.i64 x28)])]⟩)]
def ex_sDat_1_1 (w : Wd) (k : Int) (r2 : List Int) (x20 : Int) (x28 : Int) : St := [(8, ⟨z0, [(false, [(C.pt (Pt.ptr 9 0 [] 12 0 0))])]⟩), (9, ⟨z0, [(true, [.tr true (T.int IntKind.i64 w.c.1), .tr true (T.int IntKind.i64 w.c.2), .tr true (T.int IntKind.i64 w.c.3), .tr true (T.int IntKind.i64 w.c.4), .tr true (T.int IntKind.i64 w.c.5), .tr true (T.int IntKind.i64 w.c.6), .tr false (eL 1 rowB w.p.1), .tr false (eL 1 rowI w.p.2), .tr false (eL 1 rowI w.p.3), .tr false (eL 13 Nd.cs w.3), .tr false (eL 5 Ws.cs w.4), .tr false (eL 1 rowI w.5)])]⟩), (20, ⟨z0, [(false, [.tr true (T.int IntKind.i64 x20)])]⟩), (24, ⟨z0, [(false, [.tr true (.arr (1) (r2.length) (atL rowI r2))])]⟩), (28, ⟨z0, [(false, [.tr true (T.int IntKind.i64 x28)])]⟩), (140, ⟨z0, []⟩)]
theorem round_sDat_1 (w : Wd) (k : Int) (r2 : List Int) (x20 : Int) (x28 : Int) (n : Nat) (K : Ex → St → Res) : roundAt prog (tabS [(i_l1In, e_l1In), (i_sStp, e_sStp), (i_sKid, e_sKid), (i_sDof, e_sDof)]) kp_sDat F_sDat [1, 1, 1, 1, 0, 1, 0] n (st_sDat_1 w k r2 x20 x28) K = (
 bif decide (x28 < (↑r2.length : Int)) then
  gd (decide (0 ≤ x28) && (x28.toNat.blt r2.length && true)) <|
  gd ((0 + x28.toNat).blt r2.length && true && T.isI IntKind.i64 (atL rowI r2 (0 + x28.toNat) 0)) <|
  entK ok_sDof ea_sDof (f_sDof) [(0, true,
    [C.tr false (T.int IntKind.i64 w.c.1), C.tr false (T.int IntKind.i64 w.c.2),
      C.tr false (T.int IntKind.i64 w.c.3), C.tr false (T.int IntKind.i64 w.c.4),
      C.tr false (T.int IntKind.i64 w.c.5), C.tr false (T.int IntKind.i64 w.c.6), C.tr false (eL 1 rowB w.p.1),
      C.tr false (eL 1 rowI w.p.2), C.tr false (eL 1 rowI w.p.3), C.tr false (eL 13 Nd.cs w.3),
      C.tr false (eL 5 Ws.cs w.4), C.tr false (eL 1 rowI w.5)]),
  (0, false, [C.tr false (T.int IntKind.i64 (atL rowI r2 (0 + x28.toNat) 0).toI)])] fun (r3 : Int) =>
  K .normal (st_sDat_1 w k r2 (IntKind.i64.wrap (x20 + r3)) (IntKind.i64.wrap (x28 + 1)))
 else
 K (.exit 0) (ex_sDat_1_1 w k r2 x20 x28)) := by kernel_rfl
theorem post_sDat_1_1 (w : Wd) (k : Int) (r2 : List Int) (x20 : Int) (x28 : Int) (n : Nat) : contAt prog (tabS [(i_l1In, e_l1In), (i_sStp, e_sStp), (i_sKid, e_sKid), (i_sDof, e_sDof)]) kp_sDat F_sDat ts_sDat [1, 1, 1, 1, 0, 1, 0] [] n (.exit 0) (ex_sDat_1_1 w k r2 x20 x28) = (
 some ([(false, [.tr true (T.int IntKind.i64 x20)])], [(false, []), (false, [])])) := by kernel_rfl
theorem pre_sDat (w : Wd) (k : Int) (n : Nat) : body prog (tabS [(i_l1In, e_l1In), (i_sStp, e_sStp), (i_sKid, e_sKid), (i_sDof, e_sDof)]) kp_sDat n F_sDat [aR w.cs, aI k] = (
 bif decide (0 ≤ k) then
  bif !decide (k ≤ IntKind.i64.wrap ((↑w.4.length : Int) - 1)) then
   some ([(false, [.tr true (T.int IntKind.i64 0)])], [(false, []), (false, [])])
  else
  gd (decide (0 ≤ k) && (k.toNat.blt w.4.length && true)) <|
  gd (T.isI IntKind.i64 (atL Ws.cs w.4 k.toNat 0) && T.isI IntKind.i64 (atL Ws.cs w.4 k.toNat 1) &&
      ((atL Ws.cs w.4 k.toNat 2).isArr && (atL Ws.cs w.4 k.toNat 2).wd.beq 1) &&
    ((atL Ws.cs w.4 k.toNat 3).isArr && (atL Ws.cs w.4 k.toNat 3).wd.beq 1) &&
  T.isI IntKind.i64 (atL Ws.cs w.4 k.toNat 4)) <|
  entK ok_sStp ea_sStp (f_sStp) [(0, true,
    [C.tr false (T.int IntKind.i64 w.c.1), C.tr false (T.int IntKind.i64 w.c.2),
      C.tr false (T.int IntKind.i64 w.c.3), C.tr false (T.int IntKind.i64 w.c.4),
      C.tr false (T.int IntKind.i64 w.c.5), C.tr false (T.int IntKind.i64 w.c.6)]),
  (0, true,
    [C.tr false (T.int IntKind.i64 (atL Ws.cs w.4 k.toNat 0).toI),
      C.tr false (T.int IntKind.i64 (atL Ws.cs w.4 k.toNat 1).toI),
      C.tr false (T.arr 1 (atL Ws.cs w.4 k.toNat 2).ln (atL Ws.cs w.4 k.toNat 2).fn),
      C.tr false (T.arr 1 (atL Ws.cs w.4 k.toNat 3).ln (atL Ws.cs w.4 k.toNat 3).fn),
      C.tr false (T.int IntKind.i64 (atL Ws.cs w.4 k.toNat 4).toI)])] fun (r1 : Int) =>
  gd (decide (0 ≤ k) && (k.toNat.blt w.4.length && true)) <|
  gd (T.isI IntKind.i64 (atL Ws.cs w.4 k.toNat 1)) <|
  entK ok_sKid ea_sKid (f_sKid) [(0, false, [C.tr false (eL 13 Nd.cs w.3)]),
  (0, false, [C.tr false (T.int IntKind.i64 (atL Ws.cs w.4 k.toNat 1).toI)])] fun (r2 : List Int) =>
  gd (r2.length.ble r2.length && true) <|
  loopAt prog (tabS [(i_l1In, e_l1In), (i_sStp, e_sStp), (i_sKid, e_sKid), (i_sDof, e_sDof)]) kp_sDat F_sDat [1, 1, 1, 1, 0, 1, 0] n n (st_sDat_1 w k r2 r1 (0)) (contAt prog (tabS [(i_l1In, e_l1In), (i_sStp, e_sStp), (i_sKid, e_sKid), (i_sDof, e_sDof)]) kp_sDat F_sDat ts_sDat [1, 1, 1, 1, 0, 1, 0] [] n)
 else
 some ([(false, [.tr true (T.int IntKind.i64 0)])], [(false, []), (false, [])])) := by kernel_rfl
def ok_sDebt (x : Wd) : Prop := (x.l.length < LM ∧ dbI x.l) ∧ x.q.length ≤ LM ∧ (∀ z ∈ x.q, inI z.first ∧ z.tags.length ≤ LM ∧ z.chunks.length ≤ LM)
def ea_sDebt (x : Wd) : List Arg := [aR x.cs]
def f_sDebt (x : Wd) : Int := debt x
noncomputable def e_sDebt : Ent := ent [] ok_sDebt ea_sDebt (erI 1) f_sDebt
theorem ea_sDebt_inj (x y : Wd) (h : ea_sDebt x = ea_sDebt y) : x = y := by
  simp only [ea_sDebt, List.cons.injEq, and_true, true_and] at h
  exact Wd.cs_ext (aR_inj h)
theorem dm_sDebt {w : Wd} (h : ok_sDebt w) : dom ok_sDebt ea_sDebt [(0, true, [C.tr false (T.int IntKind.i64 w.c.chunks), C.tr false (T.int IntKind.i64 w.c.size), C.tr false (T.int IntKind.i64 w.c.slots), C.tr false (T.int IntKind.i64 w.c.tax), C.tr false (T.int IntKind.i64 w.c.slice), C.tr false (T.int IntKind.i64 w.c.gens), C.tr false (T.arr 1 w.p.mem.length (atL rowB w.p.mem)), C.tr false (T.arr 1 w.p.st.length (atL rowI w.p.st)), C.tr false (T.arr 1 w.p.own.length (atL rowI w.p.own)), C.tr false (T.arr 13 w.l.length (atL Nd.cs w.l)), C.tr false (T.arr 5 w.q.length (atL Ws.cs w.q)), C.tr false (T.arr 1 w.log.length (atL rowI w.log))])] = true := dom_ea (ea := ea_sDebt) (x := w) h
theorem iv_sDebt {w : Wd} (h : ok_sDebt w) : inv ok_sDebt ea_sDebt [(0, true, [C.tr false (T.int IntKind.i64 w.c.chunks), C.tr false (T.int IntKind.i64 w.c.size), C.tr false (T.int IntKind.i64 w.c.slots), C.tr false (T.int IntKind.i64 w.c.tax), C.tr false (T.int IntKind.i64 w.c.slice), C.tr false (T.int IntKind.i64 w.c.gens), C.tr false (T.arr 1 w.p.mem.length (atL rowB w.p.mem)), C.tr false (T.arr 1 w.p.st.length (atL rowI w.p.st)), C.tr false (T.arr 1 w.p.own.length (atL rowI w.p.own)), C.tr false (T.arr 13 w.l.length (atL Nd.cs w.l)), C.tr false (T.arr 5 w.q.length (atL Ws.cs w.q)), C.tr false (T.arr 1 w.log.length (atL rowI w.log))])] = w := inv_ea ea_sDebt_inj (x := w) h
def i_sDebt : Nat := 36
noncomputable abbrev F_sDebt : Func := f36
def kp_sDebt : List (Nat × List Nat) := [(0, [4, 5]), (1, [4, 5, 12]), (2, [4, 5, 12, 16]), (3, [4, 5, 12, 16, 36]), (4, [4, 5, 12, 16]), (5, [4, 5, 12, 16]), (6, [8])]
def ts_sDebt : List Nat := [0]
def st_sDebt_1 (w : Wd) (x12 : Int) (x16 : Int) : St := [(4, ⟨z0, [(false, [(C.pt (Pt.ptr 5 0 [] 12 0 0))])]⟩), (5, ⟨z0, [(true, [.tr true (T.int IntKind.i64 w.c.1), .tr true (T.int IntKind.i64 w.c.2), .tr true (T.int IntKind.i64 w.c.3), .tr true (T.int IntKind.i64 w.c.4), .tr true (T.int IntKind.i64 w.c.5), .tr true (T.int IntKind.i64 w.c.6), .tr false (eL 1 rowB w.p.1), .tr false (eL 1 rowI w.p.2), .tr false (eL 1 rowI w.p.3), .tr false (eL 13 Nd.cs w.3), .tr false (eL 5 Ws.cs w.4), .tr false (eL 1 rowI w.5)])]⟩), (12, ⟨z0, [(false, [.tr true (T.int IntKind.i64 x12)])]⟩), (16, ⟨z0, [(false, [.tr true (T.int IntKind.i64 x16)])]⟩)]
def ex_sDebt_1_1 (w : Wd) (x12 : Int) (x16 : Int) : St := [(4, ⟨z0, [(false, [(C.pt (Pt.ptr 5 0 [] 12 0 0))])]⟩), (5, ⟨z0, [(true, [.tr true (T.int IntKind.i64 w.c.1), .tr true (T.int IntKind.i64 w.c.2), .tr true (T.int IntKind.i64 w.c.3), .tr true (T.int IntKind.i64 w.c.4), .tr true (T.int IntKind.i64 w.c.5), .tr true (T.int IntKind.i64 w.c.6), .tr false (eL 1 rowB w.p.1), .tr false (eL 1 rowI w.p.2), .tr false (eL 1 rowI w.p.3), .tr false (eL 13 Nd.cs w.3), .tr false (eL 5 Ws.cs w.4), .tr false (eL 1 rowI w.5)])]⟩), (12, ⟨z0, [(false, [.tr true (T.int IntKind.i64 x12)])]⟩), (16, ⟨z0, [(false, [.tr true (T.int IntKind.i64 x16)])]⟩), (36, ⟨z0, []⟩)]
theorem round_sDebt_1 (w : Wd) (x12 : Int) (x16 : Int) (n : Nat) (K : Ex → St → Res) : roundAt prog (tabS [(i_sDat, e_sDat)]) kp_sDebt F_sDebt [1, 1, 0, 1, 0] n (st_sDebt_1 w x12 x16) K = (
 bif decide (x16 < (↑w.4.length : Int)) then
  entK ok_sDat ea_sDat (f_sDat) [(0, true,
    [C.tr false (T.int IntKind.i64 w.c.1), C.tr false (T.int IntKind.i64 w.c.2),
      C.tr false (T.int IntKind.i64 w.c.3), C.tr false (T.int IntKind.i64 w.c.4),
      C.tr false (T.int IntKind.i64 w.c.5), C.tr false (T.int IntKind.i64 w.c.6), C.tr false (eL 1 rowB w.p.1),
      C.tr false (eL 1 rowI w.p.2), C.tr false (eL 1 rowI w.p.3), C.tr false (eL 13 Nd.cs w.3),
      C.tr false (eL 5 Ws.cs w.4), C.tr false (eL 1 rowI w.5)]),
  (0, false, [C.tr false (T.int IntKind.i64 x16)])] fun (r1 : Int) =>
  K .normal (st_sDebt_1 w (IntKind.i64.wrap (x12 + r1)) (IntKind.i64.wrap (x16 + 1)))
 else
 K (.exit 0) (ex_sDebt_1_1 w x12 x16)) := by kernel_rfl
theorem post_sDebt_1_1 (w : Wd) (x12 : Int) (x16 : Int) (n : Nat) : contAt prog (tabS [(i_sDat, e_sDat)]) kp_sDebt F_sDebt ts_sDebt [1, 1, 0, 1, 0] [] n (.exit 0) (ex_sDebt_1_1 w x12 x16) = (
 some ([(false, [.tr true (T.int IntKind.i64 x12)])], [(false, [])])) := by kernel_rfl
theorem pre_sDebt (w : Wd) (n : Nat) : body prog (tabS [(i_sDat, e_sDat)]) kp_sDebt n F_sDebt [aR w.cs] = (
 loopAt prog (tabS [(i_sDat, e_sDat)]) kp_sDebt F_sDebt [1, 1, 0, 1, 0] n n (st_sDebt_1 w (0) (0)) (contAt prog (tabS [(i_sDat, e_sDat)]) kp_sDebt F_sDebt ts_sDebt [1, 1, 0, 1, 0] [] n)) := by kernel_rfl
def i_sSm : Nat := 48
noncomputable abbrev F_sSm : Func := f48
def kp_sSm : List (Nat × List Nat) := [(0, [4, 5]), (1, [8])]
noncomputable def e_sSm : Ent := inl [] prog (tabS []) kp_sSm 0 F_sSm
theorem s_sSm : EntOk prog i_sSm e_sSm := inl_ok tabS_nil mixed (c := bodyOf F_sSm) func48 (by kernel_rfl) (name_ok (by kernel_rfl))
def ok_sBoundFor (x : Wd) : Prop := (x.l.length < LM ∧ dbI x.l) ∧ x.q.length ≤ LM ∧ (∀ z ∈ x.q, inI z.first ∧ z.tags.length ≤ LM ∧ z.chunks.length ≤ LM)
def ea_sBoundFor (x : Wd) : List Arg := [aR x.cs]
def f_sBoundFor (x : Wd) : Int := IntKind.i64.wrap (IntKind.i64.wrap (4 + x.c.tax) + debt x)
noncomputable def e_sBoundFor : Ent := ent [] ok_sBoundFor ea_sBoundFor (erI 1) f_sBoundFor
theorem ea_sBoundFor_inj (x y : Wd) (h : ea_sBoundFor x = ea_sBoundFor y) : x = y := by
  simp only [ea_sBoundFor, List.cons.injEq, and_true, true_and] at h
  exact Wd.cs_ext (aR_inj h)
theorem dm_sBoundFor {w : Wd} (h : ok_sBoundFor w) : dom ok_sBoundFor ea_sBoundFor [(0, true, [C.tr false (T.int IntKind.i64 w.c.chunks), C.tr false (T.int IntKind.i64 w.c.size), C.tr false (T.int IntKind.i64 w.c.slots), C.tr false (T.int IntKind.i64 w.c.tax), C.tr false (T.int IntKind.i64 w.c.slice), C.tr false (T.int IntKind.i64 w.c.gens), C.tr false (T.arr 1 w.p.mem.length (atL rowB w.p.mem)), C.tr false (T.arr 1 w.p.st.length (atL rowI w.p.st)), C.tr false (T.arr 1 w.p.own.length (atL rowI w.p.own)), C.tr false (T.arr 13 w.l.length (atL Nd.cs w.l)), C.tr false (T.arr 5 w.q.length (atL Ws.cs w.q)), C.tr false (T.arr 1 w.log.length (atL rowI w.log))])] = true := dom_ea (ea := ea_sBoundFor) (x := w) h
theorem iv_sBoundFor {w : Wd} (h : ok_sBoundFor w) : inv ok_sBoundFor ea_sBoundFor [(0, true, [C.tr false (T.int IntKind.i64 w.c.chunks), C.tr false (T.int IntKind.i64 w.c.size), C.tr false (T.int IntKind.i64 w.c.slots), C.tr false (T.int IntKind.i64 w.c.tax), C.tr false (T.int IntKind.i64 w.c.slice), C.tr false (T.int IntKind.i64 w.c.gens), C.tr false (T.arr 1 w.p.mem.length (atL rowB w.p.mem)), C.tr false (T.arr 1 w.p.st.length (atL rowI w.p.st)), C.tr false (T.arr 1 w.p.own.length (atL rowI w.p.own)), C.tr false (T.arr 13 w.l.length (atL Nd.cs w.l)), C.tr false (T.arr 5 w.q.length (atL Ws.cs w.q)), C.tr false (T.arr 1 w.log.length (atL rowI w.log))])] = w := inv_ea ea_sBoundFor_inj (x := w) h
theorem d_sBoundFor (w : Wd) : f_sBoundFor w = IntKind.i64.wrap (IntKind.i64.wrap (4 + w.c.tax) + debt w) := rfl
def i_sBoundFor : Nat := 13
noncomputable abbrev F_sBoundFor : Func := f13
def kp_sBoundFor : List (Nat × List Nat) := [(0, [4, 5]), (1, [8])]
theorem pre_sBoundFor (w : Wd) (n : Nat) : body prog (tabS [(i_sDebt, e_sDebt), (i_sSm, e_sSm)]) kp_sBoundFor n F_sBoundFor [aR w.cs] = (
 entK ok_sDebt ea_sDebt (f_sDebt) [(0, true,
    [C.tr false (T.int IntKind.i64 w.c.1), C.tr false (T.int IntKind.i64 w.c.2),
      C.tr false (T.int IntKind.i64 w.c.3), C.tr false (T.int IntKind.i64 w.c.4),
      C.tr false (T.int IntKind.i64 w.c.5), C.tr false (T.int IntKind.i64 w.c.6), C.tr false (eL 1 rowB w.p.1),
      C.tr false (eL 1 rowI w.p.2), C.tr false (eL 1 rowI w.p.3), C.tr false (eL 13 Nd.cs w.3),
      C.tr false (eL 5 Ws.cs w.4), C.tr false (eL 1 rowI w.5)])] fun (r1 : Int) =>
 some ([(false, [.tr true (T.int IntKind.i64 (IntKind.i64.wrap (IntKind.i64.wrap (4 + w.c.4) + r1)))])], [(false, [])])) := by kernel_rfl
end Go.Mach.F
namespace Go.Mach.F
open Go Go.Mach Go.Proofs.Try
theorem dbtS_wrap (w : Wd) (n : Nat) (k : Int) (m : List Int) : IntKind.i64.wrap (dbtS n w k m).1 = (dbtS n w k m).1 := by
  cases n with
  | zero => exact (by decide : IntKind.i64.wrap 0 = 0)
  | succ n =>
    unfold dbtS
    cases isK w.l k && !has m k with
    | false => exact (by decide : IntKind.i64.wrap 0 = 0)
    | true => exact wrapped_fold w n _ (ow w k, m ++ [k]) (ow_wrap _ _)
theorem same0 (n : Nat) : SameMet n (List.replicate n false) [] := by
  refine ⟨List.length_replicate, fun k hk hn => ?_⟩
  unfold bo has
  rw [List.getD_eq_getElem?_getD, List.getElem?_replicate, if_pos (by omega)]
  simp
theorem dbtI_of {w : Wd} {k : Int} (h : isK w.l k = true) : (dbtI (w.l.length + 1) w [k] (List.replicate w.l.length false)).1 = dbtOf w k := by
  rw [(dbt_same w (w.l.length + 1) [k] _ [] (same0 _) (fun y hy => by rw [List.mem_singleton] at hy; subst hy; exact h)).1]
  simp only [List.foldl_cons, List.foldl_nil, Int.zero_add]
  exact dbtS_wrap _ _ _ _
theorem body_iDof (w : Wd) (k : Int) (n : Nat) (h : ok_iDof (w, k)) : body prog (tabS [(i_isSlot, e_isSlot), (i_dbt, e_dbt (w.l.length + 1))]) kp_iDof n F_iDof (ea_iDof (w, k)) = some (erI 2 (f_iDof (w, k))) := by
  have hlm := lm
  obtain ⟨hl, hn, hk⟩ := h
  dsimp only at hl hn hk
  have w0 : IntKind.i64.wrap ((w.l.length : Int) - 1) = (w.l.length : Int) - 1 := by rw [IntKind.wrap_i64]; omega
  unfold ea_iDof f_iDof
  dsimp only
  rw [pre_iDof]
  simp (implicitDefEqProofs := false) only [w0]
  have out : ¬ (0 ≤ k ∧ k < (w.l.length : Int)) → dbtOf w k = 0 := fun h => by
    unfold dbtOf dbtS
    have : isK w.l k = false := by
      cases e : isK w.l k with
      | false => rfl
      | true => exact absurd (isK_iff.1 e) h
    rw [this]
    rfl
  by_cases e0 : 0 ≤ k
  case neg =>
    rw [out (fun e => e0 e.1)]
    simp (implicitDefEqProofs := false) only [e0, decide_false, cond_false]
    rfl
  by_cases e1 : k < (w.l.length : Int)
  case neg =>
    have e2 : ¬ k ≤ (w.l.length : Int) - 1 := by omega
    rw [out (fun e => e1 e.2)]
    simp (implicitDefEqProofs := false) only [e0, e2, decide_true, decide_false, cond_true, Bool.not_false]
    rfl
  have e2 : k ≤ (w.l.length : Int) - 1 := by omega
  have hK : isK w.l k = true := isK_iff.2 ⟨e0, e1⟩
  have s1 : w.l.length * 1 ≤ 70368744177664 := by omega
  have s2 : w.l.length ≤ 70368744177664 := by omega
  have hr : (List.replicate w.l.length false).length = w.l.length := List.length_replicate
  have c0 : ok_dbt (w.l.length + 1) (w, [k], List.replicate w.l.length false) := ⟨⟨hl, hn⟩, by dsimp only [List.length_singleton]; omega, (fun y hy => by rw [List.mem_singleton] at hy; subst hy; exact hK), hr, by have := List.count_le_length (a := false) (l := List.replicate w.l.length false); dsimp only; omega⟩
  have hd := dbtI_inv w (w.l.length + 1) [k] (List.replicate w.l.length false) _ (fun y hy => by rw [List.mem_singleton] at hy; subst hy; exact hK) ⟨hr, Nat.le_refl _⟩
  simp (implicitDefEqProofs := false) only [lt_d, ge0_d, Int.toNat_natCast, blt_d, ble_self, beq_self, decide_true, cond_true, Bool.and_self, Bool.and_true, Bool.true_and, gd_true, Nat.zero_add, List.getD_cons_zero, List.getD_cons_succ, isI_int, toI_int, isB_bool, toB_bool, eL_T, arr_ln, arr_fn, arr_wd, arr_is, arr_get, e0, e2, s1, s2, Int.toNat_natCast, Int.le_refl, Bool.not_true, cond_false, ble_d, Nat.beq_refl]
  rw [zero_fill (m := 1) (row := rowO) (d := false) w.l.length (fun j k => by rcases k with _ | _ <;> kernel_rfl)]
  rw [show cutT 0 1 (rowsT [[T.int IntKind.i64 k]]) = atL rowI [k] from by rw [show [T.int .i64 k] = rowI k from rfl, rows1]; exact cut_all rowI [k]]
  have hx := entK_of (dm_dbt c0) (iv_dbt c0) (F := f_dbt (w.l.length + 1)) (R := List Row × List Row)
  rw [hr] at hx
  rw [show T.arr 1 1 (atL rowI [k]) = T.arr 1 [k].length (atL rowI [k]) from rfl, hx]
  simp (implicitDefEqProofs := false) only [f_dbt, lt_d, ge0_d, Int.toNat_natCast, blt_d, ble_self, beq_self, decide_true, cond_true, Bool.and_self, Bool.and_true, Bool.true_and, gd_true, Nat.zero_add, List.getD_cons_zero, List.getD_cons_succ, isI_int, toI_int, isB_bool, toB_bool, eL_T, arr_ln, arr_fn, arr_wd, arr_is, arr_get, hd.1, Nat.beq_refl, dbtI_of hK]
  rfl
theorem s_iDof : EntOk prog i_iDof e_iDof := ent_ok ea_iDof_inj fun x hx =>
  body_sound (φ := (tabS [(i_isSlot, e_isSlot), (i_dbt, e_dbt (x.1.l.length + 1))])) (tabS_cons s_isSlot (tabS_cons (s_dbt _) tabS_nil)) mixed (kp := kp_iDof) (n := 0) func131 (c := bodyOf F_iDof) (by kernel_rfl) (body_iDof x.1 x.2 0 hx) (name_ok (by kernel_rfl))
theorem body_sDof (w : Wd) (k : Int) (n : Nat) (h : ok_sDof (w, k)) : body prog (tabS [(i_dbs, e_dbs (w.l.length + 1))]) kp_sDof n F_sDof (ea_sDof (w, k)) = some (erI 2 (f_sDof (w, k))) := by
  obtain ⟨hl, hn, hk⟩ := h
  dsimp only at hl hn hk
  have c0 : ok_dbs (w.l.length + 1) (w, k, []) := ⟨⟨hl, hn⟩, ⟨List.nodup_nil, fun x hx => by cases hx⟩, by dsimp only [List.length_nil]; omega⟩
  unfold ea_sDof f_sDof dbtOf
  dsimp only
  rw [pre_sDof]
  simp (implicitDefEqProofs := false) only [eL_T]
  rw [show T.arr 1 0 (rowsT []) = T.arr 1 ([] : List Int).length (atL rowI []) from by rw [rowsT0 rowI]; rfl, entK_of (dm_dbs c0) (iv_dbs c0)]
  simp (implicitDefEqProofs := false) only [f_dbs, ble_d, Nat.le_refl, decide_true, Bool.and_true, gd_true]
  rfl
theorem s_sDof : EntOk prog i_sDof e_sDof := ent_ok ea_sDof_inj fun x hx =>
  body_sound (φ := (tabS [(i_dbs, e_dbs (x.1.l.length + 1))])) (tabS_cons (s_dbs _) tabS_nil) mixed (kp := kp_sDof) (n := 0) func128 (c := bodyOf F_sDof) (by kernel_rfl) (body_sDof x.1 x.2 0 hx) (name_ok (by kernel_rfl))
theorem ws_getk {w : Wd} {k : Int} (h : k.toNat < w.q.length) : w.q[k.toNat]? = some (wsAt w k) := by
  unfold wsAt
  rw [List.getD_eq_getElem?_getD, List.getElem?_eq_getElem h]
  rfl
theorem ws_in {w : Wd} {k : Int} (h : k.toNat < w.q.length) : wsAt w k ∈ w.q := List.mem_of_getElem? (ws_getk h)
theorem dbtE_next {w : Wd} {x : Ws} {i : Nat} {y : Int} (h : (kids w.l x.first)[i]? = some y) : dbtE w x (i + 1) = IntKind.i64.wrap (dbtE w x i + dbtOf w y) := by
  unfold dbtE
  rw [List.take_add_one, h, List.foldl_append]
  rfl
theorem body_iDat (w : Wd) (k : Int) (h : ok_iDat (w, k)) : body prog (tabS [(i_within, e_within), (i_iStp, e_iStp), (i_iKid, e_iKid), (i_iDof, e_iDof)]) kp_iDat ((kids w.l (wsAt w k).first).length + 1) F_iDat (ea_iDat (w, k)) = some (erI 2 (f_iDat (w, k))) := by
  have hlm := lm
  obtain ⟨⟨hl, hn⟩, hq, hw⟩ := h
  dsimp only at hl hn hq hw
  have w0 : IntKind.i64.wrap ((w.q.length : Int) - 1) = (w.q.length : Int) - 1 := by rw [IntKind.wrap_i64]; omega
  unfold ea_iDat f_iDat dbtAt
  dsimp only
  rw [pre_iDat]
  simp (implicitDefEqProofs := false) only [w0]
  by_cases e0 : 0 ≤ k
  case neg =>
    simp (implicitDefEqProofs := false) only [e0, decide_false, cond_false, Bool.false_and]
    rfl
  by_cases e1 : k < (w.q.length : Int)
  case neg =>
    have e2 : ¬ k ≤ (w.q.length : Int) - 1 := by omega
    simp (implicitDefEqProofs := false) only [e0, e1, e2, decide_true, decide_false, cond_true, cond_false, Bool.not_false, Bool.and_false]
    rfl
  have e2 : k ≤ (w.q.length : Int) - 1 := by omega
  have e3 : k.toNat < w.q.length := by omega
  have hx := ws_getk e3
  have hxw := hw _ (ws_in e3)
  obtain ⟨x, hxe⟩ : ∃ x, x = wsAt w k := ⟨_, rfl⟩
  rw [← hxe] at hx hxw ⊢
  have c0 : ok_iStp (w.c, x) := hxw.2
  have c1 : ok_iKid (w.l, x.first) := ⟨by dsimp only; omega, hxw.1, fun y hy => (hn y hy).1⟩
  simp (implicitDefEqProofs := false) only [lt_d, ge0_d, Int.toNat_natCast, blt_d, ble_self, beq_self, decide_true, cond_true, Bool.and_self, Bool.and_true, Bool.true_and, gd_true, Nat.zero_add, List.getD_cons_zero, List.getD_cons_succ, isI_int, toI_int, isB_bool, toB_bool, eL_T, arr_ln, arr_fn, arr_wd, arr_is, arr_get, e0, e1, e2, e3, Bool.not_true, cond_false, atL_of hx, Ws.cs]
  rw [entK_of (dm_iStp c0) (iv_iStp c0)]
  simp (implicitDefEqProofs := false) only [d_iStp, lt_d, ge0_d, Int.toNat_natCast, blt_d, ble_self, beq_self, decide_true, cond_true, Bool.and_self, Bool.and_true, Bool.true_and, gd_true, Nat.zero_add, List.getD_cons_zero, List.getD_cons_succ, isI_int, toI_int, isB_bool, toB_bool, eL_T, arr_ln, arr_fn, arr_wd, arr_is, arr_get]
  rw [entK_of (dm_iKid c1) (iv_iKid c1)]
  simp (implicitDefEqProofs := false) only [d_iKid, lt_d, ge0_d, Int.toNat_natCast, blt_d, ble_self, beq_self, decide_true, cond_true, Bool.and_self, Bool.and_true, Bool.true_and, gd_true, Nat.zero_add, List.getD_cons_zero, List.getD_cons_succ, isI_int, toI_int, isB_bool, toB_bool, eL_T, arr_ln, arr_fn, arr_wd, arr_is, arr_get]
  obtain ⟨q, hqe⟩ : ∃ q, q = kids w.l x.first := ⟨_, rfl⟩
  have hql : q.length ≤ w.l.length := by rw [hqe]; exact kidL_len
  have hqk : ∀ y ∈ q, isK w.l y = true := by rw [hqe]; exact kidL_isK
  have hnx : ∀ i y, q[i]? = some y → dbtE w x (i + 1) = IntKind.i64.wrap (dbtE w x i + dbtOf w y) := fun i y h => dbtE_next (by rw [← hqe]; exact h)
  rw [← hqe]
  have hst : st_iDat_1 w k q (stp w.c x) 0 = (fun i : Nat => st_iDat_1 w k q (dbtE w x i) (i : Nat)) 0 := rfl
  rw [hst, forLoop q.length (fun i : Nat => st_iDat_1 w k q (dbtE w x i) (i : Nat)) (ex_iDat_1_1 w k q (dbtE w x q.length) q.length) 0 (fun i K hi => ?_) (fun K => ?_) _ (Nat.le_refl _)]
  · rw [post_iDat_1_1]
    rfl
  · have hx := List.getElem?_eq_getElem hi
    obtain ⟨y, hye⟩ : ∃ y, y = q[i] := ⟨_, rfl⟩
    rw [← hye] at hx
    have hy := isK_iff.1 (hqk y (List.mem_of_getElem? hx))
    have c2 : ok_iDof (w, y) := ⟨hl, hn, by unfold inI; dsimp only; omega⟩
    have w1 : IntKind.i64.wrap ((i : Int) + 1) = ((i + 1 : Nat) : Int) := wrapS (by omega)
    rw [round_iDat_1, hnx i y hx]
    simp (implicitDefEqProofs := false) only [lt_d, ge0_d, Int.toNat_natCast, blt_d, ble_self, beq_self, decide_true, cond_true, Bool.and_self, Bool.and_true, Bool.true_and, gd_true, Nat.zero_add, List.getD_cons_zero, List.getD_cons_succ, isI_int, toI_int, isB_bool, toB_bool, eL_T, arr_ln, arr_fn, arr_wd, arr_is, arr_get, hi, atL_of hx, rowI, w1]
    rw [entK_of (dm_iDof c2) (iv_iDof c2)]
    rfl
  · rw [round_iDat_1]
    simp (implicitDefEqProofs := false) only [lt_d, Nat.lt_irrefl, decide_false, cond_false]
theorem s_iDat : EntOk prog i_iDat e_iDat := ent_ok ea_iDat_inj fun x hx =>
  body_sound (φ := (tabS [(i_within, e_within), (i_iStp, e_iStp), (i_iKid, e_iKid), (i_iDof, e_iDof)])) (tabS_cons s_within (tabS_cons s_iStp (tabS_cons s_iKid (tabS_cons s_iDof tabS_nil)))) mixed (kp := kp_iDat) (n := (kids x.1.l (wsAt x.1 x.2).first).length + 1) func87 (c := bodyOf F_iDat) (by kernel_rfl) (body_iDat x.1 x.2 hx) (name_ok (by kernel_rfl))
theorem body_iDebt (w : Wd) (h : ok_iDebt w) : body prog (tabS [(i_iDat, e_iDat)]) kp_iDebt (w.q.length + 1) F_iDebt (ea_iDebt w) = some (erI 1 (f_iDebt w)) := by
  have hlm := lm
  have h' := h
  obtain ⟨⟨hl, hn⟩, hq, hw⟩ := h'
  unfold ea_iDebt f_iDebt debt
  rw [pre_iDebt]
  have hst : st_iDebt_1 w 0 0 = (fun i : Nat => st_iDebt_1 w (dbtN w i) (i : Nat)) 0 := rfl
  rw [hst, forLoop w.q.length (fun i : Nat => st_iDebt_1 w (dbtN w i) (i : Nat)) (ex_iDebt_1_1 w (dbtN w w.q.length) w.q.length) 0 (fun i K hi => ?_) (fun K => ?_) _ (Nat.le_refl _)]
  · rw [post_iDebt_1_1]
    rfl
  · have c0 : ok_iDat (w, (i : Int)) := h
    have w1 : IntKind.i64.wrap ((i : Int) + 1) = ((i + 1 : Nat) : Int) := wrapS (by omega)
    rw [round_iDebt_1]
    simp (implicitDefEqProofs := false) only [lt_d, ge0_d, Int.toNat_natCast, blt_d, ble_self, beq_self, decide_true, cond_true, Bool.and_self, Bool.and_true, Bool.true_and, gd_true, Nat.zero_add, List.getD_cons_zero, List.getD_cons_succ, isI_int, toI_int, isB_bool, toB_bool, eL_T, arr_ln, arr_fn, arr_wd, arr_is, arr_get, hi, w1]
    rw [entK_of (dm_iDat c0) (iv_iDat c0)]
    rfl
  · rw [round_iDebt_1]
    simp (implicitDefEqProofs := false) only [lt_d, Nat.lt_irrefl, decide_false, cond_false]
theorem s_iDebt : EntOk prog i_iDebt e_iDebt := ent_ok ea_iDebt_inj fun x hx =>
  body_sound (φ := (tabS [(i_iDat, e_iDat)])) (tabS_cons s_iDat tabS_nil) mixed (kp := kp_iDebt) (n := x.q.length + 1) func43 (c := bodyOf F_iDebt) (by kernel_rfl) (body_iDebt x hx) (name_ok (by kernel_rfl))
theorem body_iBoundFor (w : Wd) (n : Nat) (h : ok_iBoundFor w) : body prog (tabS [(i_iDebt, e_iDebt), (i_iSm, e_iSm)]) kp_iBoundFor n F_iBoundFor (ea_iBoundFor w) = some (erI 1 (f_iBoundFor w)) := by
  have c0 : ok_iDebt w := h
  unfold ea_iBoundFor f_iBoundFor
  rw [pre_iBoundFor]
  simp (implicitDefEqProofs := false) only [eL_T]
  rw [entK_of (dm_iDebt c0) (iv_iDebt c0)]
  rfl
theorem s_iBoundFor : EntOk prog i_iBoundFor e_iBoundFor := ent_ok ea_iBoundFor_inj fun x hx =>
  body_sound (φ := (tabS [(i_iDebt, e_iDebt), (i_iSm, e_iSm)])) (tabS_cons s_iDebt (tabS_cons s_iSm tabS_nil)) mixed (kp := kp_iBoundFor) (n := 0) func14 (c := bodyOf F_iBoundFor) (by kernel_rfl) (body_iBoundFor x (0) hx) (name_ok (by kernel_rfl))
theorem body_sDat (w : Wd) (k : Int) (h : ok_sDat (w, k)) : body prog (tabS [(i_l1In, e_l1In), (i_sStp, e_sStp), (i_sKid, e_sKid), (i_sDof, e_sDof)]) kp_sDat ((kids w.l (wsAt w k).first).length + 1) F_sDat (ea_sDat (w, k)) = some (erI 2 (f_sDat (w, k))) := by
  have hlm := lm
  obtain ⟨⟨hl, hn⟩, hq, hw⟩ := h
  dsimp only at hl hn hq hw
  have w0 : IntKind.i64.wrap ((w.q.length : Int) - 1) = (w.q.length : Int) - 1 := by rw [IntKind.wrap_i64]; omega
  unfold ea_sDat f_sDat dbtAt
  dsimp only
  rw [pre_sDat]
  simp (implicitDefEqProofs := false) only [w0]
  by_cases e0 : 0 ≤ k
  case neg =>
    simp (implicitDefEqProofs := false) only [e0, decide_false, cond_false, Bool.false_and]
    rfl
  by_cases e1 : k < (w.q.length : Int)
  case neg =>
    have e2 : ¬ k ≤ (w.q.length : Int) - 1 := by omega
    simp (implicitDefEqProofs := false) only [e0, e1, e2, decide_true, decide_false, cond_true, cond_false, Bool.not_false, Bool.and_false]
    rfl
  have e2 : k ≤ (w.q.length : Int) - 1 := by omega
  have e3 : k.toNat < w.q.length := by omega
  have hx := ws_getk e3
  have hxw := hw _ (ws_in e3)
  obtain ⟨x, hxe⟩ : ∃ x, x = wsAt w k := ⟨_, rfl⟩
  rw [← hxe] at hx hxw ⊢
  have c0 : ok_sStp (w.c, x) := hxw.2
  have c1 : ok_sKid (w.l, x.first) := ⟨by dsimp only; omega, hxw.1, fun y hy => (hn y hy).1⟩
  simp (implicitDefEqProofs := false) only [lt_d, ge0_d, Int.toNat_natCast, blt_d, ble_self, beq_self, decide_true, cond_true, Bool.and_self, Bool.and_true, Bool.true_and, gd_true, Nat.zero_add, List.getD_cons_zero, List.getD_cons_succ, isI_int, toI_int, isB_bool, toB_bool, eL_T, arr_ln, arr_fn, arr_wd, arr_is, arr_get, e0, e1, e2, e3, Bool.not_true, cond_false, atL_of hx, Ws.cs]
  rw [entK_of (dm_sStp c0) (iv_sStp c0)]
  simp (implicitDefEqProofs := false) only [d_sStp, lt_d, ge0_d, Int.toNat_natCast, blt_d, ble_self, beq_self, decide_true, cond_true, Bool.and_self, Bool.and_true, Bool.true_and, gd_true, Nat.zero_add, List.getD_cons_zero, List.getD_cons_succ, isI_int, toI_int, isB_bool, toB_bool, eL_T, arr_ln, arr_fn, arr_wd, arr_is, arr_get]
  rw [entK_of (dm_sKid c1) (iv_sKid c1)]
  simp (implicitDefEqProofs := false) only [d_sKid, lt_d, ge0_d, Int.toNat_natCast, blt_d, ble_self, beq_self, decide_true, cond_true, Bool.and_self, Bool.and_true, Bool.true_and, gd_true, Nat.zero_add, List.getD_cons_zero, List.getD_cons_succ, isI_int, toI_int, isB_bool, toB_bool, eL_T, arr_ln, arr_fn, arr_wd, arr_is, arr_get, ble_d, Nat.le_refl]
  obtain ⟨q, hqe⟩ : ∃ q, q = kids w.l x.first := ⟨_, rfl⟩
  have hql : q.length ≤ w.l.length := by rw [hqe]; exact kidL_len
  have hqk : ∀ y ∈ q, isK w.l y = true := by rw [hqe]; exact kidL_isK
  have hnx : ∀ i y, q[i]? = some y → dbtE w x (i + 1) = IntKind.i64.wrap (dbtE w x i + dbtOf w y) := fun i y h => dbtE_next (by rw [← hqe]; exact h)
  rw [← hqe]
  have hst : st_sDat_1 w k q (stp w.c x) 0 = (fun i : Nat => st_sDat_1 w k q (dbtE w x i) (i : Nat)) 0 := rfl
  rw [hst, forLoop q.length (fun i : Nat => st_sDat_1 w k q (dbtE w x i) (i : Nat)) (ex_sDat_1_1 w k q (dbtE w x q.length) q.length) 0 (fun i K hi => ?_) (fun K => ?_) _ (Nat.le_refl _)]
  · rw [post_sDat_1_1]
    rfl
  · have hx := List.getElem?_eq_getElem hi
    obtain ⟨y, hye⟩ : ∃ y, y = q[i] := ⟨_, rfl⟩
    rw [← hye] at hx
    have hy := isK_iff.1 (hqk y (List.mem_of_getElem? hx))
    have c2 : ok_sDof (w, y) := ⟨hl, hn, by unfold inI; dsimp only; omega⟩
    have w1 : IntKind.i64.wrap ((i : Int) + 1) = ((i + 1 : Nat) : Int) := wrapS (by omega)
    rw [round_sDat_1, hnx i y hx]
    simp (implicitDefEqProofs := false) only [lt_d, ge0_d, Int.toNat_natCast, blt_d, ble_self, beq_self, decide_true, cond_true, Bool.and_self, Bool.and_true, Bool.true_and, gd_true, Nat.zero_add, List.getD_cons_zero, List.getD_cons_succ, isI_int, toI_int, isB_bool, toB_bool, eL_T, arr_ln, arr_fn, arr_wd, arr_is, arr_get, hi, atL_of hx, rowI, w1]
    rw [entK_of (dm_sDof c2) (iv_sDof c2)]
    rfl
  · rw [round_sDat_1]
    simp (implicitDefEqProofs := false) only [lt_d, Nat.lt_irrefl, decide_false, cond_false]
theorem s_sDat : EntOk prog i_sDat e_sDat := ent_ok ea_sDat_inj fun x hx =>
  body_sound (φ := (tabS [(i_l1In, e_l1In), (i_sStp, e_sStp), (i_sKid, e_sKid), (i_sDof, e_sDof)])) (tabS_cons s_l1In (tabS_cons s_sStp (tabS_cons s_sKid (tabS_cons s_sDof tabS_nil)))) mixed (kp := kp_sDat) (n := (kids x.1.l (wsAt x.1 x.2).first).length + 1) func82 (c := bodyOf F_sDat) (by kernel_rfl) (body_sDat x.1 x.2 hx) (name_ok (by kernel_rfl))
theorem body_sDebt (w : Wd) (h : ok_sDebt w) : body prog (tabS [(i_sDat, e_sDat)]) kp_sDebt (w.q.length + 1) F_sDebt (ea_sDebt w) = some (erI 1 (f_sDebt w)) := by
  have hlm := lm
  have h' := h
  obtain ⟨⟨hl, hn⟩, hq, hw⟩ := h'
  unfold ea_sDebt f_sDebt debt
  rw [pre_sDebt]
  have hst : st_sDebt_1 w 0 0 = (fun i : Nat => st_sDebt_1 w (dbtN w i) (i : Nat)) 0 := rfl
  rw [hst, forLoop w.q.length (fun i : Nat => st_sDebt_1 w (dbtN w i) (i : Nat)) (ex_sDebt_1_1 w (dbtN w w.q.length) w.q.length) 0 (fun i K hi => ?_) (fun K => ?_) _ (Nat.le_refl _)]
  · rw [post_sDebt_1_1]
    rfl
  · have c0 : ok_sDat (w, (i : Int)) := h
    have w1 : IntKind.i64.wrap ((i : Int) + 1) = ((i + 1 : Nat) : Int) := wrapS (by omega)
    rw [round_sDebt_1]
    simp (implicitDefEqProofs := false) only [lt_d, ge0_d, Int.toNat_natCast, blt_d, ble_self, beq_self, decide_true, cond_true, Bool.and_self, Bool.and_true, Bool.true_and, gd_true, Nat.zero_add, List.getD_cons_zero, List.getD_cons_succ, isI_int, toI_int, isB_bool, toB_bool, eL_T, arr_ln, arr_fn, arr_wd, arr_is, arr_get, hi, w1]
    rw [entK_of (dm_sDat c0) (iv_sDat c0)]
    rfl
  · rw [round_sDebt_1]
    simp (implicitDefEqProofs := false) only [lt_d, Nat.lt_irrefl, decide_false, cond_false]
theorem s_sDebt : EntOk prog i_sDebt e_sDebt := ent_ok ea_sDebt_inj fun x hx =>
  body_sound (φ := (tabS [(i_sDat, e_sDat)])) (tabS_cons s_sDat tabS_nil) mixed (kp := kp_sDebt) (n := x.q.length + 1) func36 (c := bodyOf F_sDebt) (by kernel_rfl) (body_sDebt x hx) (name_ok (by kernel_rfl))
theorem body_sBoundFor (w : Wd) (n : Nat) (h : ok_sBoundFor w) : body prog (tabS [(i_sDebt, e_sDebt), (i_sSm, e_sSm)]) kp_sBoundFor n F_sBoundFor (ea_sBoundFor w) = some (erI 1 (f_sBoundFor w)) := by
  have c0 : ok_sDebt w := h
  unfold ea_sBoundFor f_sBoundFor
  rw [pre_sBoundFor]
  simp (implicitDefEqProofs := false) only [eL_T]
  rw [entK_of (dm_sDebt c0) (iv_sDebt c0)]
  rfl
theorem s_sBoundFor : EntOk prog i_sBoundFor e_sBoundFor := ent_ok ea_sBoundFor_inj fun x hx =>
  body_sound (φ := (tabS [(i_sDebt, e_sDebt), (i_sSm, e_sSm)])) (tabS_cons s_sDebt (tabS_cons s_sSm tabS_nil)) mixed (kp := kp_sBoundFor) (n := 0) func13 (c := bodyOf F_sBoundFor) (by kernel_rfl) (body_sBoundFor x (0) hx) (name_ok (by kernel_rfl))
end Go.Mach.F
namespace Go.Mach.F
open Go Go.Mach Go.Proofs.Try
--=set_option maxRecDepth 100000
theorem Th.cs_ext {x y : Th} (h : x.cs = y.cs) : x = y := Th.cs_inj x y fun k => by rw [h]
end Go.Mach.F
namespace Go.Mach.F
open Go Go.Mach Go.Proofs.Try
--=set_option maxRecDepth 100000
def allK (rs : List Rm) : List Hd := rs.flatMap Rm.kids
/-- What a walk down has met: handles of the model, or the first one, each once. -/
structure MetOk (rs : List Rm) (h0 : Hd) (met : List Hd) : Prop where
  nd : met.Nodup
  sub : ∀ x ∈ met, x = h0 ∨ x ∈ allK rs
structure GatOk (k : Nat) (m : Ml) (h : Hd) (met : List Hd) : Prop where
  rooms : ok_RmS m.rooms
  kids : (allK m.rooms).length < LM
  tags : cntL (fun r => r.tags.length) m.rooms ≤ LM
  walk : ∃ h0, MetOk m.rooms h0 met ∧ (h = h0 ∨ h ∈ allK m.rooms)
  fuel : (allK m.rooms).length + 2 ≤ met.length + k
end Go.Mach.F
namespace Go.Mach.F
open Go Go.Mach Go.Proofs.Try
theorem nodup_len : ∀ {U l : List Hd}, l.Nodup → (∀ x ∈ l, x ∈ U) → l.length ≤ U.length
  | [], l, _, hs => by
    have : l = [] := List.eq_nil_iff_forall_not_mem.2 fun x hx => by simpa using hs x hx
    rw [this]
    exact Nat.le_refl _
  | u :: U, l, h, hs => by
    have h1 := nodup_len (U := U) (l := l.erase u) (h.erase u) fun x hx => by
      rw [h.mem_erase_iff] at hx
      exact (List.mem_cons.1 (hs x hx.2)).resolve_left hx.1
    rw [List.length_erase] at h1
    simp only [List.length_cons]
    split at h1 <;> omega
theorem MetOk.len {rs : List Rm} {h0 : Hd} {met : List Hd} (h : MetOk rs h0 met) : met.length ≤ (allK rs).length + 1 := by
  have := nodup_len (U := h0 :: allK rs) h.nd fun x hx => by
    rcases h.sub x hx with rfl | h1
    · exact List.mem_cons_self
    · exact List.mem_cons_of_mem _ h1
  simpa using this
theorem MetOk.add {rs : List Rm} {h0 h : Hd} {met : List Hd} (hm : MetOk rs h0 met) (hh : h = h0 ∨ h ∈ allK rs) (hn : h ∉ met) : MetOk rs h0 (met ++ [h]) where
  nd := by
    rw [List.nodup_append]
    refine ⟨hm.nd, by simp, fun a ha b hb => ?_⟩
    rw [List.mem_singleton] at hb
    subst hb
    intro e
    subst e
    exact hn ha
  sub := fun x hx => by
    rcases List.mem_append.1 hx with h1 | h1
    · exact hm.sub x h1
    · rw [List.mem_singleton.1 h1]
      exact hh
end Go.Mach.F
namespace Go.Mach.F
open Go Go.Mach Go.Proofs.Try
theorem wf_i64 {k : Int} (h : (Lit.int .i64 k).wf = true) : inI k := by
  unfold inI
  simp only [Lit.wf, Bool.and_eq_true, decide_eq_true_eq] at h
  have e1 : IntKind.i64.min = -9223372036854775808 := by decide
  have e2 : IntKind.i64.max = 9223372036854775807 := by decide
  rw [e1, e2] at h
  omega
end Go.Mach.F
namespace Go.Mach.F
open Go Go.Mach Go.Proofs.Try
--=set_option maxRecDepth 100000
def ok_ToWd (x : Wd) : Prop := ok_LB x.p.mem ∧ ok_LI x.p.st ∧ ok_LI x.p.own ∧ ok_NdS x.l ∧ ok_WsS x.q ∧ ok_LI x.log
def ea_ToWd (x : Wd) : List Arg := [aR x.cs]
def f_ToWd (x : Wd) : Wd := x
noncomputable def e_ToWd : Ent := ent [] ok_ToWd ea_ToWd (fun l => erR 1 l.cs) f_ToWd
theorem ea_ToWd_inj (x y : Wd) (h : ea_ToWd x = ea_ToWd y) : x = y := by
  simp only [ea_ToWd, List.cons.injEq, and_true, true_and] at h
  exact Wd.cs_ext (aR_inj h)
theorem dm_ToWd {l : Wd} (h : ok_ToWd l) : dom ok_ToWd ea_ToWd [(0, true, [C.tr false (T.int IntKind.i64 l.c.chunks), C.tr false (T.int IntKind.i64 l.c.size), C.tr false (T.int IntKind.i64 l.c.slots), C.tr false (T.int IntKind.i64 l.c.tax), C.tr false (T.int IntKind.i64 l.c.slice), C.tr false (T.int IntKind.i64 l.c.gens), C.tr false (T.arr 1 l.p.mem.length (atL rowB l.p.mem)), C.tr false (T.arr 1 l.p.st.length (atL rowI l.p.st)), C.tr false (T.arr 1 l.p.own.length (atL rowI l.p.own)), C.tr false (T.arr 13 l.l.length (atL Nd.cs l.l)), C.tr false (T.arr 5 l.q.length (atL Ws.cs l.q)), C.tr false (T.arr 1 l.log.length (atL rowI l.log))])] = true := dom_ea (ea := ea_ToWd) (x := l) h
theorem iv_ToWd {l : Wd} (h : ok_ToWd l) : inv ok_ToWd ea_ToWd [(0, true, [C.tr false (T.int IntKind.i64 l.c.chunks), C.tr false (T.int IntKind.i64 l.c.size), C.tr false (T.int IntKind.i64 l.c.slots), C.tr false (T.int IntKind.i64 l.c.tax), C.tr false (T.int IntKind.i64 l.c.slice), C.tr false (T.int IntKind.i64 l.c.gens), C.tr false (T.arr 1 l.p.mem.length (atL rowB l.p.mem)), C.tr false (T.arr 1 l.p.st.length (atL rowI l.p.st)), C.tr false (T.arr 1 l.p.own.length (atL rowI l.p.own)), C.tr false (T.arr 13 l.l.length (atL Nd.cs l.l)), C.tr false (T.arr 5 l.q.length (atL Ws.cs l.q)), C.tr false (T.arr 1 l.log.length (atL rowI l.log))])] = l := inv_ea ea_ToWd_inj (x := l) h
theorem d_ToWd (l : Wd) : f_ToWd l = l := rfl
def i_ToWd : Nat := 10
noncomputable abbrev F_ToWd : Func := f10
def kp_ToWd : List (Nat × List Nat) := [(0, [4, 5, 8, 9, 12, 13, 96]), (1, [4, 5, 8, 9, 12, 13, 96]), (2, [4, 5, 8, 9, 12, 13, 96]), (3, [4, 5, 8, 9, 12, 13, 96]), (4, [4, 5, 8, 9, 12, 13, 96]), (5, [4, 5, 8, 9, 12, 13, 96]), (6, [8, 9, 12, 13, 96]), (7, [8, 9, 12, 13, 96])]
theorem pre_ToWd (l : Wd) (n : Nat) : body prog (tabS [(i_toCf, e_toCf), (i_toPl, e_toPl), (i_toNdS, e_toNdS), (i_toWsS, e_toWsS), (i_toLI, e_toLI)]) kp_ToWd n F_ToWd [aR l.cs] = (
 gd (dom ok_LB ea_LB [(0, false, [C.tr false (eL 1 rowB l.p.1)])]) <|
 gd ((inv ok_LB ea_LB [(0, false, [C.tr false (eL 1 rowB l.p.1)])]).length.ble
    (inv ok_LB ea_LB [(0, false, [C.tr false (eL 1 rowB l.p.1)])]).length &&
  true) <|
 gd (dom ok_LI ea_LI [(0, false, [C.tr false (eL 1 rowI l.p.2)])]) <|
 gd ((inv ok_LI ea_LI [(0, false, [C.tr false (eL 1 rowI l.p.2)])]).length.ble
    (inv ok_LI ea_LI [(0, false, [C.tr false (eL 1 rowI l.p.2)])]).length &&
  true) <|
 gd (dom ok_LI ea_LI [(0, false, [C.tr false (eL 1 rowI l.p.3)])]) <|
 gd ((inv ok_LI ea_LI [(0, false, [C.tr false (eL 1 rowI l.p.3)])]).length.ble
    (inv ok_LI ea_LI [(0, false, [C.tr false (eL 1 rowI l.p.3)])]).length &&
  true) <|
 gd ((inv ok_LB ea_LB [(0, false, [C.tr false (eL 1 rowB l.p.1)])]).length.ble
    (inv ok_LB ea_LB [(0, false, [C.tr false (eL 1 rowB l.p.1)])]).length &&
  true) <|
 gd ((inv ok_LI ea_LI [(0, false, [C.tr false (eL 1 rowI l.p.2)])]).length.ble
    (inv ok_LI ea_LI [(0, false, [C.tr false (eL 1 rowI l.p.2)])]).length &&
  true) <|
 gd ((inv ok_LI ea_LI [(0, false, [C.tr false (eL 1 rowI l.p.3)])]).length.ble
    (inv ok_LI ea_LI [(0, false, [C.tr false (eL 1 rowI l.p.3)])]).length &&
  true) <|
 gd ((inv ok_LB ea_LB [(0, false, [C.tr false (eL 1 rowB l.p.1)])]).length.ble
    (inv ok_LB ea_LB [(0, false, [C.tr false (eL 1 rowB l.p.1)])]).length &&
  true) <|
 gd ((inv ok_LI ea_LI [(0, false, [C.tr false (eL 1 rowI l.p.2)])]).length.ble
    (inv ok_LI ea_LI [(0, false, [C.tr false (eL 1 rowI l.p.2)])]).length &&
  true) <|
 gd ((inv ok_LI ea_LI [(0, false, [C.tr false (eL 1 rowI l.p.3)])]).length.ble
    (inv ok_LI ea_LI [(0, false, [C.tr false (eL 1 rowI l.p.3)])]).length &&
  true) <|
 gd ((inv ok_LB ea_LB [(0, false, [C.tr false (eL 1 rowB l.p.1)])]).length.ble
    (inv ok_LB ea_LB [(0, false, [C.tr false (eL 1 rowB l.p.1)])]).length &&
  true) <|
 gd ((inv ok_LI ea_LI [(0, false, [C.tr false (eL 1 rowI l.p.2)])]).length.ble
    (inv ok_LI ea_LI [(0, false, [C.tr false (eL 1 rowI l.p.2)])]).length &&
  true) <|
 gd ((inv ok_LI ea_LI [(0, false, [C.tr false (eL 1 rowI l.p.3)])]).length.ble
    (inv ok_LI ea_LI [(0, false, [C.tr false (eL 1 rowI l.p.3)])]).length &&
  true) <|
 gd (dom ok_NdS ea_NdS [(0, false, [C.tr false (eL 13 Nd.cs l.3)])]) <|
 gd ((inv ok_NdS ea_NdS [(0, false, [C.tr false (eL 13 Nd.cs l.3)])]).length.ble
    (inv ok_NdS ea_NdS [(0, false, [C.tr false (eL 13 Nd.cs l.3)])]).length &&
  true) <|
 gd (dom ok_WsS ea_WsS [(0, false, [C.tr false (eL 5 Ws.cs l.4)])]) <|
 gd ((inv ok_WsS ea_WsS [(0, false, [C.tr false (eL 5 Ws.cs l.4)])]).length.ble
    (inv ok_WsS ea_WsS [(0, false, [C.tr false (eL 5 Ws.cs l.4)])]).length &&
  true) <|
 gd (dom ok_LI ea_LI [(0, false, [C.tr false (eL 1 rowI l.5)])]) <|
 gd ((inv ok_LI ea_LI [(0, false, [C.tr false (eL 1 rowI l.5)])]).length.ble
    (inv ok_LI ea_LI [(0, false, [C.tr false (eL 1 rowI l.5)])]).length &&
  true) <|
 gd ((inv ok_LB ea_LB [(0, false, [C.tr false (eL 1 rowB l.p.1)])]).length.ble
    (inv ok_LB ea_LB [(0, false, [C.tr false (eL 1 rowB l.p.1)])]).length &&
  true) <|
 gd ((inv ok_LI ea_LI [(0, false, [C.tr false (eL 1 rowI l.p.2)])]).length.ble
    (inv ok_LI ea_LI [(0, false, [C.tr false (eL 1 rowI l.p.2)])]).length &&
  true) <|
 gd ((inv ok_LI ea_LI [(0, false, [C.tr false (eL 1 rowI l.p.3)])]).length.ble
    (inv ok_LI ea_LI [(0, false, [C.tr false (eL 1 rowI l.p.3)])]).length &&
  true) <|
 gd ((inv ok_NdS ea_NdS [(0, false, [C.tr false (eL 13 Nd.cs l.3)])]).length.ble
    (inv ok_NdS ea_NdS [(0, false, [C.tr false (eL 13 Nd.cs l.3)])]).length &&
  true) <|
 gd ((inv ok_WsS ea_WsS [(0, false, [C.tr false (eL 5 Ws.cs l.4)])]).length.ble
    (inv ok_WsS ea_WsS [(0, false, [C.tr false (eL 5 Ws.cs l.4)])]).length &&
  true) <|
 gd ((inv ok_LI ea_LI [(0, false, [C.tr false (eL 1 rowI l.5)])]).length.ble
    (inv ok_LI ea_LI [(0, false, [C.tr false (eL 1 rowI l.5)])]).length &&
  true) <|
 gd ((inv ok_LB ea_LB [(0, false, [C.tr false (eL 1 rowB l.p.1)])]).length.ble
    (inv ok_LB ea_LB [(0, false, [C.tr false (eL 1 rowB l.p.1)])]).length &&
  true) <|
 gd ((inv ok_LI ea_LI [(0, false, [C.tr false (eL 1 rowI l.p.2)])]).length.ble
    (inv ok_LI ea_LI [(0, false, [C.tr false (eL 1 rowI l.p.2)])]).length &&
  true) <|
 gd ((inv ok_LI ea_LI [(0, false, [C.tr false (eL 1 rowI l.p.3)])]).length.ble
    (inv ok_LI ea_LI [(0, false, [C.tr false (eL 1 rowI l.p.3)])]).length &&
  true) <|
 gd ((inv ok_NdS ea_NdS [(0, false, [C.tr false (eL 13 Nd.cs l.3)])]).length.ble
    (inv ok_NdS ea_NdS [(0, false, [C.tr false (eL 13 Nd.cs l.3)])]).length &&
  true) <|
 gd ((inv ok_WsS ea_WsS [(0, false, [C.tr false (eL 5 Ws.cs l.4)])]).length.ble
    (inv ok_WsS ea_WsS [(0, false, [C.tr false (eL 5 Ws.cs l.4)])]).length &&
  true) <|
 gd ((inv ok_LI ea_LI [(0, false, [C.tr false (eL 1 rowI l.5)])]).length.ble
    (inv ok_LI ea_LI [(0, false, [C.tr false (eL 1 rowI l.5)])]).length &&
  true) <|
 some ([(true, [.tr true (T.int IntKind.i64 l.c.1), .tr true (T.int IntKind.i64 l.c.2), .tr true (T.int IntKind.i64 l.c.3), .tr true (T.int IntKind.i64 l.c.4), .tr true (T.int IntKind.i64 l.c.5), .tr true (T.int IntKind.i64 l.c.6), .tr true (.arr (1) ((inv ok_LB ea_LB [(0, false, [C.tr false (eL 1 rowB l.p.1)])]).length) (atL rowB (inv ok_LB ea_LB [(0, false, [C.tr false (eL 1 rowB l.p.1)])]))), .tr true (.arr (1) ((inv ok_LI ea_LI [(0, false, [C.tr false (eL 1 rowI l.p.2)])]).length) (atL rowI (inv ok_LI ea_LI [(0, false, [C.tr false (eL 1 rowI l.p.2)])]))), .tr true (.arr (1) ((inv ok_LI ea_LI [(0, false, [C.tr false (eL 1 rowI l.p.3)])]).length) (atL rowI (inv ok_LI ea_LI [(0, false, [C.tr false (eL 1 rowI l.p.3)])]))), .tr true (.arr (13) ((inv ok_NdS ea_NdS [(0, false, [C.tr false (eL 13 Nd.cs l.3)])]).length) ((eL 13 Nd.cs (inv ok_NdS ea_NdS [(0, false, [C.tr false (eL 13 Nd.cs l.3)])])).fn)), .tr true (.arr (5) ((inv ok_WsS ea_WsS [(0, false, [C.tr false (eL 5 Ws.cs l.4)])]).length) ((eL 5 Ws.cs (inv ok_WsS ea_WsS [(0, false, [C.tr false (eL 5 Ws.cs l.4)])])).fn)), .tr true (.arr (1) ((inv ok_LI ea_LI [(0, false, [C.tr false (eL 1 rowI l.5)])]).length) (atL rowI (inv ok_LI ea_LI [(0, false, [C.tr false (eL 1 rowI l.5)])])))])], [(false, [])])) := by kernel_rfl
theorem body_ToWd (l : Wd) (n : Nat) (h : ok_ToWd l) : body prog (tabS [(i_toCf, e_toCf), (i_toPl, e_toPl), (i_toNdS, e_toNdS), (i_toWsS, e_toWsS), (i_toLI, e_toLI)]) kp_ToWd n F_ToWd (ea_ToWd l) = some (erR 1 l.cs) := by
  have h0 : ok_LB l.p.mem := h.1
  have h1 : ok_LI l.p.st := h.2.1
  have h2 : ok_LI l.p.own := h.2.2.1
  have h3 : ok_NdS l.l := h.2.2.2.1
  have h4 : ok_WsS l.q := h.2.2.2.2.1
  have h5 : ok_LI l.log := h.2.2.2.2.2
  unfold ea_ToWd
  rw [pre_ToWd]
  simp only [lt_d, ge0_d, Int.toNat_natCast, blt_d, ble_self, beq_self, decide_true, cond_true, Bool.and_self, Bool.and_true, Bool.true_and, gd_true, Nat.zero_add, List.getD_cons_zero, List.getD_cons_succ, isI_int, toI_int, isB_bool, toB_bool, eL_T, arr_ln, arr_fn, arr_wd, arr_is, arr_get, Wd.cs, dm_toLB h0, iv_toLB h0, dm_toLI h1, iv_toLI h1, dm_toLI h2, iv_toLI h2, dm_toNdS h3, iv_toNdS h3, dm_toWsS h4, iv_toWsS h4, dm_toLI h5, iv_toLI h5, cut_all]
  rfl
theorem s_ToWd : EntOk prog i_ToWd e_ToWd := ent_ok ea_ToWd_inj fun x hx =>
  body_sound (φ := (tabS [(i_toCf, e_toCf), (i_toPl, e_toPl), (i_toNdS, e_toNdS), (i_toWsS, e_toWsS), (i_toLI, e_toLI)])) (tabS_cons s_toCf (tabS_cons s_toPl (tabS_cons s_toNdS (tabS_cons s_toWsS (tabS_cons s_toLI tabS_nil))))) mixed (kp := kp_ToWd) (n := 0) func10 (c := bodyOf F_ToWd) (by kernel_rfl) (body_ToWd x 0 hx) (name_ok (by kernel_rfl))
def okq_Wd (l : Wd) : Prop := okq_LB l.p.mem ∧ okq_LI l.p.st ∧ okq_LI l.p.own ∧ okq_NdS l.l ∧ okq_WsS l.q ∧ okq_LI l.log
def n_Wd (l : Wd) : Nat := n_LB l.p.mem + n_LI l.p.st + n_LI l.p.own + n_NdS l.l + n_WsS l.q + n_LI l.log
def ok_SzWd (x : Wd × Int) : Prop := z_Wd x.1 ∧ 0 ≤ x.2 ∧ x.2 ≤ LM
def ea_SzWd (x : Wd × Int) : List Arg := [aR x.1.cs, aI x.2]
def f_SzWd (x : Wd × Int) : Int := if (n_Wd x.1 : Int) ≤ x.2 then x.2 - n_Wd x.1 else -1
noncomputable def e_SzWd : Ent := ent [] ok_SzWd ea_SzWd (erI 2) f_SzWd
theorem ea_SzWd_inj (x y : Wd × Int) (h : ea_SzWd x = ea_SzWd y) : x = y := by
  obtain ⟨l1, k1⟩ := x
  obtain ⟨l2, k2⟩ := y
  simp only [ea_SzWd, List.cons.injEq, and_true, true_and] at h
  obtain ⟨e0, e1⟩ := h
  obtain rfl := Wd.cs_ext (aR_inj e0)
  obtain rfl := aI_inj e1
  rfl
theorem dm_SzWd {l : Wd} {k : Int} (h : ok_SzWd (l, k)) : dom ok_SzWd ea_SzWd [(0, true, [C.tr false (T.int IntKind.i64 l.c.chunks), C.tr false (T.int IntKind.i64 l.c.size), C.tr false (T.int IntKind.i64 l.c.slots), C.tr false (T.int IntKind.i64 l.c.tax), C.tr false (T.int IntKind.i64 l.c.slice), C.tr false (T.int IntKind.i64 l.c.gens), C.tr false (T.arr 1 l.p.mem.length (atL rowB l.p.mem)), C.tr false (T.arr 1 l.p.st.length (atL rowI l.p.st)), C.tr false (T.arr 1 l.p.own.length (atL rowI l.p.own)), C.tr false (T.arr 13 l.l.length (atL Nd.cs l.l)), C.tr false (T.arr 5 l.q.length (atL Ws.cs l.q)), C.tr false (T.arr 1 l.log.length (atL rowI l.log))]), (0, false, [C.tr false (T.int IntKind.i64 k)])] = true := dom_ea (ea := ea_SzWd) (x := (l, k)) h
theorem iv_SzWd {l : Wd} {k : Int} (h : ok_SzWd (l, k)) : inv ok_SzWd ea_SzWd [(0, true, [C.tr false (T.int IntKind.i64 l.c.chunks), C.tr false (T.int IntKind.i64 l.c.size), C.tr false (T.int IntKind.i64 l.c.slots), C.tr false (T.int IntKind.i64 l.c.tax), C.tr false (T.int IntKind.i64 l.c.slice), C.tr false (T.int IntKind.i64 l.c.gens), C.tr false (T.arr 1 l.p.mem.length (atL rowB l.p.mem)), C.tr false (T.arr 1 l.p.st.length (atL rowI l.p.st)), C.tr false (T.arr 1 l.p.own.length (atL rowI l.p.own)), C.tr false (T.arr 13 l.l.length (atL Nd.cs l.l)), C.tr false (T.arr 5 l.q.length (atL Ws.cs l.q)), C.tr false (T.arr 1 l.log.length (atL rowI l.log))]), (0, false, [C.tr false (T.int IntKind.i64 k)])] = (l, k) := inv_ea ea_SzWd_inj (x := (l, k)) h
def i_SzWd : Nat := 8
noncomputable abbrev F_SzWd : Func := f8
def kp_SzWd : List (Nat × List Nat) := [(0, [4, 8, 9]), (1, [4, 8, 9]), (2, [4, 8, 9, 40]), (3, [16]), (4, [4, 8, 9]), (5, [4, 8, 9, 64]), (6, [16]), (7, [4, 8, 9]), (8, [4, 8, 9, 88]), (9, [16]), (10, [4]), (11, [4, 112]), (12, [16]), (13, [16])]
theorem pre_SzWd (l : Wd) (k : Int) (n : Nat) : body prog (tabS [(i_szPl, e_szPl), (i_szNdS, e_szNdS), (i_szWsS, e_szWsS), (i_szLI, e_szLI)]) kp_SzWd n F_SzWd [aR l.cs, aI k] = (
 bif decide (IntKind.i64.wrap (k - (↑l.p.1.length : Int)) < 0) then
  some ([(false, [.tr true (T.int IntKind.i64 (-1))])], [(false, []), (false, [])])
 else
 bif decide (IntKind.i64.wrap (k - (↑l.p.1.length : Int)) < 0) then
  some ([(false, [.tr true (T.int IntKind.i64 (-1))])], [(false, []), (false, [])])
 else
 bif decide (IntKind.i64.wrap (IntKind.i64.wrap (k - (↑l.p.1.length : Int)) - (↑l.p.2.length : Int)) < 0) then
  some ([(false, [.tr true (T.int IntKind.i64 (-1))])], [(false, []), (false, [])])
 else
 bif decide (IntKind.i64.wrap (IntKind.i64.wrap (k - (↑l.p.1.length : Int)) - (↑l.p.2.length : Int)) < 0) then
  some ([(false, [.tr true (T.int IntKind.i64 (-1))])], [(false, []), (false, [])])
 else
 bif decide
  (IntKind.i64.wrap
      (IntKind.i64.wrap (IntKind.i64.wrap (k - (↑l.p.1.length : Int)) - (↑l.p.2.length : Int)) -
        (↑l.p.3.length : Int)) <
    0) then
  some ([(false, [.tr true (T.int IntKind.i64 (-1))])], [(false, []), (false, [])])
 else
 bif decide
  (IntKind.i64.wrap
      (IntKind.i64.wrap (IntKind.i64.wrap (k - (↑l.p.1.length : Int)) - (↑l.p.2.length : Int)) -
        (↑l.p.3.length : Int)) <
    0) then
  some ([(false, [.tr true (T.int IntKind.i64 (-1))])], [(false, []), (false, [])])
 else
 bif decide
  (IntKind.i64.wrap
      (IntKind.i64.wrap (IntKind.i64.wrap (k - (↑l.p.1.length : Int)) - (↑l.p.2.length : Int)) -
        (↑l.p.3.length : Int)) <
    0) then
  some ([(false, [.tr true (T.int IntKind.i64 (-1))])], [(false, []), (false, [])])
 else
 gd (dom okzz_NdS eaz_NdS
  [(0, false, [C.tr false (eL 13 Nd.cs l.3)]),
    (0, false,
      [C.tr false
          (T.int IntKind.i64
            (IntKind.i64.wrap
              (IntKind.i64.wrap (IntKind.i64.wrap (k - (↑l.p.1.length : Int)) - (↑l.p.2.length : Int)) -
                (↑l.p.3.length : Int))))])]) <|
 bif decide
  (f_szNdS
      (inv okzz_NdS eaz_NdS
        [(0, false, [C.tr false (eL 13 Nd.cs l.3)]),
          (0, false,
            [C.tr false
                (T.int IntKind.i64
                  (IntKind.i64.wrap
                    (IntKind.i64.wrap (IntKind.i64.wrap (k - (↑l.p.1.length : Int)) - (↑l.p.2.length : Int)) -
                      (↑l.p.3.length : Int))))])]) <
    0) then
  some ([(false, [.tr true (T.int IntKind.i64 (-1))])], [(false, []), (false, [])])
 else
 gd (dom okzz_WsS eaz_WsS
  [(0, false, [C.tr false (eL 5 Ws.cs l.4)]),
    (0, false,
      [C.tr false
          (T.int IntKind.i64
            (f_szNdS
              (inv okzz_NdS eaz_NdS
                [(0, false, [C.tr false (eL 13 Nd.cs l.3)]),
                  (0, false,
                    [C.tr false
                        (T.int IntKind.i64
                          (IntKind.i64.wrap
                            (IntKind.i64.wrap
                                (IntKind.i64.wrap (k - (↑l.p.1.length : Int)) - (↑l.p.2.length : Int)) -
                              (↑l.p.3.length : Int))))])])))])]) <|
 bif decide
  (f_szWsS
      (inv okzz_WsS eaz_WsS
        [(0, false, [C.tr false (eL 5 Ws.cs l.4)]),
          (0, false,
            [C.tr false
                (T.int IntKind.i64
                  (f_szNdS
                    (inv okzz_NdS eaz_NdS
                      [(0, false, [C.tr false (eL 13 Nd.cs l.3)]),
                        (0, false,
                          [C.tr false
                              (T.int IntKind.i64
                                (IntKind.i64.wrap
                                  (IntKind.i64.wrap
                                      (IntKind.i64.wrap (k - (↑l.p.1.length : Int)) - (↑l.p.2.length : Int)) -
                                    (↑l.p.3.length : Int))))])])))])]) <
    0) then
  some ([(false, [.tr true (T.int IntKind.i64 (-1))])], [(false, []), (false, [])])
 else
 bif decide
  (IntKind.i64.wrap
      (f_szWsS
          (inv okzz_WsS eaz_WsS
            [(0, false, [C.tr false (eL 5 Ws.cs l.4)]),
              (0, false,
                [C.tr false
                    (T.int IntKind.i64
                      (f_szNdS
                        (inv okzz_NdS eaz_NdS
                          [(0, false, [C.tr false (eL 13 Nd.cs l.3)]),
                            (0, false,
                              [C.tr false
                                  (T.int IntKind.i64
                                    (IntKind.i64.wrap
                                      (IntKind.i64.wrap
                                          (IntKind.i64.wrap (k - (↑l.p.1.length : Int)) - (↑l.p.2.length : Int)) -
                                        (↑l.p.3.length : Int))))])])))])]) -
        (↑l.5.length : Int)) <
    0) then
  some ([(false, [.tr true (T.int IntKind.i64 (-1))])], [(false, []), (false, [])])
 else
 bif decide
  (IntKind.i64.wrap
      (f_szWsS
          (inv okzz_WsS eaz_WsS
            [(0, false, [C.tr false (eL 5 Ws.cs l.4)]),
              (0, false,
                [C.tr false
                    (T.int IntKind.i64
                      (f_szNdS
                        (inv okzz_NdS eaz_NdS
                          [(0, false, [C.tr false (eL 13 Nd.cs l.3)]),
                            (0, false,
                              [C.tr false
                                  (T.int IntKind.i64
                                    (IntKind.i64.wrap
                                      (IntKind.i64.wrap
                                          (IntKind.i64.wrap (k - (↑l.p.1.length : Int)) - (↑l.p.2.length : Int)) -
                                        (↑l.p.3.length : Int))))])])))])]) -
        (↑l.5.length : Int)) <
    0) then
  some ([(false, [.tr true (T.int IntKind.i64 (-1))])], [(false, []), (false, [])])
 else
 some ([(false, [.tr true (T.int IntKind.i64
  (IntKind.i64.wrap
    (f_szWsS
        (inv okzz_WsS eaz_WsS
          [(0, false, [C.tr false (eL 5 Ws.cs l.4)]),
            (0, false,
              [C.tr false
                  (T.int IntKind.i64
                    (f_szNdS
                      (inv okzz_NdS eaz_NdS
                        [(0, false, [C.tr false (eL 13 Nd.cs l.3)]),
                          (0, false,
                            [C.tr false
                                (T.int IntKind.i64
                                  (IntKind.i64.wrap
                                    (IntKind.i64.wrap
                                        (IntKind.i64.wrap (k - (↑l.p.1.length : Int)) - (↑l.p.2.length : Int)) -
                                      (↑l.p.3.length : Int))))])])))])]) -
      (↑l.5.length : Int))))])], [(false, []), (false, [])])) := by kernel_rfl
theorem body_SzWd (l : Wd) (k : Int) (n : Nat) (h : ok_SzWd (l, k)) : body prog (tabS [(i_szPl, e_szPl), (i_szNdS, e_szNdS), (i_szWsS, e_szWsS), (i_szLI, e_szLI)]) kp_SzWd n F_SzWd (ea_SzWd (l, k)) = some (erI 2 (f_SzWd (l, k))) := by
  have hzm := zm
  have hlm := lm
  obtain ⟨hz, hk0, hk1⟩ := h
  dsimp only at hz hk0 hk1
  have z0 : okz_LB l.p.mem := hz.1
  have z1 : okz_LI l.p.st := hz.2.1
  have z2 : okz_LI l.p.own := hz.2.2.1
  have z3 : okz_NdS l.l := hz.2.2.2.1
  have z4 : okz_WsS l.q := hz.2.2.2.2.1
  have z5 : okz_LI l.log := hz.2.2.2.2.2
  have hn : n_Wd l = l.p.mem.length + l.p.st.length + l.p.own.length + n_NdS l.l + n_WsS l.q + l.log.length := rfl
  unfold ea_SzWd f_SzWd
  dsimp only
  rw [pre_SzWd]
  have y0 : l.p.mem.length ≤ ZM := z0
  try simp (disch := omega) only [wrapI]
  by_cases e0 : k - (l.p.mem.length : Int) < 0
  · rw [if_neg (by omega)]
    simp only [decide_eq_true e0, cond_true]
    rfl
  simp (disch := omega) only [decide_eq_false e0, cond_false, wrapI]
  have y1 : l.p.st.length ≤ ZM := z1
  try simp (disch := omega) only [wrapI]
  by_cases e1 : k - (l.p.mem.length : Int) - (l.p.st.length : Int) < 0
  · rw [if_neg (by omega)]
    simp only [decide_eq_true e1, cond_true]
    rfl
  simp (disch := omega) only [decide_eq_false e1, cond_false, wrapI]
  have y2 : l.p.own.length ≤ ZM := z2
  try simp (disch := omega) only [wrapI]
  by_cases e2 : k - (l.p.mem.length : Int) - (l.p.st.length : Int) - (l.p.own.length : Int) < 0
  · rw [if_neg (by omega)]
    simp only [decide_eq_true e2, cond_true]
    rfl
  simp (disch := omega) only [decide_eq_false e2, cond_false, wrapI]
  have y3 : okzz_NdS (l.l, k - (l.p.mem.length : Int) - (l.p.st.length : Int) - (l.p.own.length : Int)) := ⟨z3, by dsimp only; omega, by dsimp only; omega⟩
  simp only [lt_d, ge0_d, Int.toNat_natCast, blt_d, ble_self, beq_self, decide_true, cond_true, Bool.and_self, Bool.and_true, Bool.true_and, gd_true, Nat.zero_add, List.getD_cons_zero, List.getD_cons_succ, isI_int, toI_int, isB_bool, toB_bool, eL_T, arr_ln, arr_fn, arr_wd, arr_is, arr_get, Wd.cs, dm_szNdS y3, iv_szNdS y3]
  by_cases e3 : (n_NdS l.l : Int) ≤ k - (l.p.mem.length : Int) - (l.p.st.length : Int) - (l.p.own.length : Int)
  case neg =>
    simp only [n_szNdS e3]
    rw [if_neg (by omega)]
    simp only [decide_eq_true (show (-1 : Int) < 0 by omega), cond_true]
    rfl
  simp only [y_szNdS e3]
  simp (disch := omega) only [decide_eq_false (show ¬ k - (l.p.mem.length : Int) - (l.p.st.length : Int) - (l.p.own.length : Int) - (n_NdS l.l : Int) < 0 by omega), cond_false, wrapI]
  have y4 : okzz_WsS (l.q, k - (l.p.mem.length : Int) - (l.p.st.length : Int) - (l.p.own.length : Int) - (n_NdS l.l : Int)) := ⟨z4, by dsimp only; omega, by dsimp only; omega⟩
  simp only [lt_d, ge0_d, Int.toNat_natCast, blt_d, ble_self, beq_self, decide_true, cond_true, Bool.and_self, Bool.and_true, Bool.true_and, gd_true, Nat.zero_add, List.getD_cons_zero, List.getD_cons_succ, isI_int, toI_int, isB_bool, toB_bool, eL_T, arr_ln, arr_fn, arr_wd, arr_is, arr_get, Wd.cs, dm_szWsS y4, iv_szWsS y4]
  by_cases e4 : (n_WsS l.q : Int) ≤ k - (l.p.mem.length : Int) - (l.p.st.length : Int) - (l.p.own.length : Int) - (n_NdS l.l : Int)
  case neg =>
    simp only [n_szWsS e4]
    rw [if_neg (by omega)]
    simp only [decide_eq_true (show (-1 : Int) < 0 by omega), cond_true]
    rfl
  simp only [y_szWsS e4]
  simp (disch := omega) only [decide_eq_false (show ¬ k - (l.p.mem.length : Int) - (l.p.st.length : Int) - (l.p.own.length : Int) - (n_NdS l.l : Int) - (n_WsS l.q : Int) < 0 by omega), cond_false, wrapI]
  have y5 : l.log.length ≤ ZM := z5
  try simp (disch := omega) only [wrapI]
  by_cases e5 : k - (l.p.mem.length : Int) - (l.p.st.length : Int) - (l.p.own.length : Int) - (n_NdS l.l : Int) - (n_WsS l.q : Int) - (l.log.length : Int) < 0
  · rw [if_neg (by omega)]
    simp only [decide_eq_true e5, cond_true]
    rfl
  simp (disch := omega) only [decide_eq_false e5, cond_false, wrapI]
  rw [if_pos (by omega), show k - (n_Wd l : Int) = k - (l.p.mem.length : Int) - (l.p.st.length : Int) - (l.p.own.length : Int) - (n_NdS l.l : Int) - (n_WsS l.q : Int) - (l.log.length : Int) by omega]
  rfl
theorem s_SzWd : EntOk prog i_SzWd e_SzWd := ent_ok ea_SzWd_inj fun x hx =>
  body_sound (φ := (tabS [(i_szPl, e_szPl), (i_szNdS, e_szNdS), (i_szWsS, e_szWsS), (i_szLI, e_szLI)])) (tabS_cons s_szPl (tabS_cons s_szNdS (tabS_cons s_szWsS (tabS_cons s_szLI tabS_nil)))) mixed (kp := kp_SzWd) (n := 0) func8 (c := bodyOf F_SzWd) (by kernel_rfl) (body_SzWd x.1 x.2 (0) hx) (name_ok (by kernel_rfl))
theorem y_SzWd {l : Wd} {k : Int} (h : (n_Wd l : Int) ≤ k) : f_SzWd (l, k) = k - n_Wd l := if_pos h
theorem n_SzWd {l : Wd} {k : Int} (h : ¬ (n_Wd l : Int) ≤ k) : f_SzWd (l, k) = -1 := if_neg h
theorem okn_Wd {l : Wd} (h : (n_Wd l : Int) ≤ 1048576) : ok_ToWd l ∧ okq_Wd l := ⟨⟨(okn_LB (l := l.p.mem) (by have : n_Wd l = n_LB l.p.mem + n_LI l.p.st + n_LI l.p.own + n_NdS l.l + n_WsS l.q + n_LI l.log := rfl; omega)).1, (okn_LI (l := l.p.st) (by have : n_Wd l = n_LB l.p.mem + n_LI l.p.st + n_LI l.p.own + n_NdS l.l + n_WsS l.q + n_LI l.log := rfl; omega)).1, (okn_LI (l := l.p.own) (by have : n_Wd l = n_LB l.p.mem + n_LI l.p.st + n_LI l.p.own + n_NdS l.l + n_WsS l.q + n_LI l.log := rfl; omega)).1, (okn_NdS (l := l.l) (by have : n_Wd l = n_LB l.p.mem + n_LI l.p.st + n_LI l.p.own + n_NdS l.l + n_WsS l.q + n_LI l.log := rfl; omega)).1, (okn_WsS (l := l.q) (by have : n_Wd l = n_LB l.p.mem + n_LI l.p.st + n_LI l.p.own + n_NdS l.l + n_WsS l.q + n_LI l.log := rfl; omega)).1, (okn_LI (l := l.log) (by have : n_Wd l = n_LB l.p.mem + n_LI l.p.st + n_LI l.p.own + n_NdS l.l + n_WsS l.q + n_LI l.log := rfl; omega)).1⟩, ⟨(okn_LB (l := l.p.mem) (by have : n_Wd l = n_LB l.p.mem + n_LI l.p.st + n_LI l.p.own + n_NdS l.l + n_WsS l.q + n_LI l.log := rfl; omega)).2, (okn_LI (l := l.p.st) (by have : n_Wd l = n_LB l.p.mem + n_LI l.p.st + n_LI l.p.own + n_NdS l.l + n_WsS l.q + n_LI l.log := rfl; omega)).2, (okn_LI (l := l.p.own) (by have : n_Wd l = n_LB l.p.mem + n_LI l.p.st + n_LI l.p.own + n_NdS l.l + n_WsS l.q + n_LI l.log := rfl; omega)).2, (okn_NdS (l := l.l) (by have : n_Wd l = n_LB l.p.mem + n_LI l.p.st + n_LI l.p.own + n_NdS l.l + n_WsS l.q + n_LI l.log := rfl; omega)).2, (okn_WsS (l := l.q) (by have : n_Wd l = n_LB l.p.mem + n_LI l.p.st + n_LI l.p.own + n_NdS l.l + n_WsS l.q + n_LI l.log := rfl; omega)).2, (okn_LI (l := l.log) (by have : n_Wd l = n_LB l.p.mem + n_LI l.p.st + n_LI l.p.own + n_NdS l.l + n_WsS l.q + n_LI l.log := rfl; omega)).2⟩⟩
end Go.Mach.F
namespace Go.Mach.F
open Go Go.Mach Go.Proofs.Try
def ndx (l : List Nd) : Prop := ∀ x ∈ l, inI x.next ∧ inI x.first ∧ ∀ t ∈ x.things, inI t.len
theorem ndx_sh {x : Wd} (hh : ShTs x.cs shWd) : ndx x.l := fun y hy => by
  obtain ⟨j, hj, e⟩ := List.getElem_of_mem hy
  have h9 := hh.2.2.2.2.2.2.2.2.2.1
  obtain ⟨ss, e1, _, _, h1, _⟩ := h9
  cases e1
  have h2 := h1 j hj 6 (.int .i64) rfl
  rw [show (atL Nd.cs x.l j 6) = T.int .i64 y.next from by rw [atL_of (List.getElem?_eq_getElem hj), e]; rfl] at h2
  have h3 := h1 j hj 5 (.int .i64) rfl
  rw [show (atL Nd.cs x.l j 5) = T.int .i64 y.first from by rw [atL_of (List.getElem?_eq_getElem hj), e]; rfl] at h3
  have h4 := h1 j hj 11 _ rfl
  rw [show (atL Nd.cs x.l j 11) = T.arr 3 y.things.length (atL Th.cs y.things) from by rw [atL_of (List.getElem?_eq_getElem hj), e]; rfl] at h4
  refine ⟨wf_i64 h2.2, wf_i64 h3.2, fun t ht => ?_⟩
  obtain ⟨ss, e2, _, _, h5, _⟩ := h4
  cases e2
  obtain ⟨i, hi, e3⟩ := List.getElem_of_mem ht
  have h6 := h5 i hi 1 (.int .i64) rfl
  rw [show (atL Th.cs y.things i 1) = T.int .i64 t.len from by rw [atL_of (List.getElem?_eq_getElem hi), e3]; rfl] at h6
  exact wf_i64 h6.2
end Go.Mach.F
namespace Go.Mach.F
open Go Go.Mach Go.Proofs.Try
def wsx (l : List Ws) : Prop := ∀ x ∈ l, inI x.first
theorem wsx_sh {x : Wd} (hh : ShTs x.cs shWd) : wsx x.q := fun y hy => by
  obtain ⟨j, hj, e⟩ := List.getElem_of_mem hy
  have h9 := hh.2.2.2.2.2.2.2.2.2.2.1
  obtain ⟨ss, e1, _, _, h1, _⟩ := h9
  cases e1
  have h2 := h1 j hj 1 (.int .i64) rfl
  rw [show (atL Ws.cs x.q j 1) = T.int .i64 y.first from by rw [atL_of (List.getElem?_eq_getElem hj), e]; rfl] at h2
  exact wf_i64 h2.2
theorem dbt_ok {w : Wd} (e : (n_Wd w : Int) ≤ 1048576) (hl : ok_NdS w.l) (hq : ok_WsS w.q) (hu : ndx w.l) (hx : wsx w.q) : ok_iDebt w := by
  have hlm := lm
  have hn : n_Wd w = w.p.mem.length + n_LI w.p.st + n_LI w.p.own + (w.l.length + cntL n1_NdS w.l) + n_WsS w.q + n_LI w.log := rfl
  exact ⟨⟨by omega, fun x hm => ⟨(hu x hm).1, (hu x hm).2.1, (hl.2 x hm).2.2, (hl.2 x hm).1⟩⟩, hq.1, fun z hz => ⟨hx z hz, (hq.2 z hz).1, (hq.2 z hz).2⟩⟩
end Go.Mach.F
section
set_option maxRecDepth 100000
set_option maxHeartbeats 4000000
namespace Go.Mach.F
open Go Go.Mach Go.Proofs.Try
def i_xBoundFor : Nat := 4
noncomputable abbrev F_xBoundFor : Func := f4
def kp_xBoundFor : List (Nat × List Nat) := [(0, [4, 5]), (1, [4, 5, 12]), (2, [4, 5, 12]), (3, [4, 5, 44]), (4, [8]), (5, [4, 5, 16]), (6, [4, 5, 16, 20, 21, 64]), (7, [4, 5, 16, 20, 21, 24, 64]), (8, [4, 5, 20, 21, 64, 84]), (9, [8]), (10, [104]), (11, [8]), (12, [8])]
def sq_xBoundFor_0 (w : Wd) : St := initA 27 0 [aR w.cs]
def ce_xBoundFor_0 (w : Wd) : Nat × Ct := (5, ⟨z0, [(true, [.tr true (T.int IntKind.i64 w.c.1), .tr true (T.int IntKind.i64 w.c.2), .tr true (T.int IntKind.i64 w.c.3), .tr true (T.int IntKind.i64 w.c.4), .tr true (T.int IntKind.i64 w.c.5), .tr true (T.int IntKind.i64 w.c.6), .tr false (eL 1 rowB w.p.1), .tr false (eL 1 rowI w.p.2), .tr false (eL 1 rowI w.p.3), .tr false (eL 13 Nd.cs w.3), .tr false (eL 5 Ws.cs w.4), .tr false (eL 1 rowI w.5)])]⟩)
def sq_xBoundFor_1 (w : Wd) : St := [(4, ⟨z0, [(false, [(C.pt (Pt.ptr 5 0 [] 12 0 0))])]⟩), (ce_xBoundFor_0 w)]
theorem sg_xBoundFor_0 (w : Wd) (n : Nat) (K : Ex → St → Res) : atP prog (tabS [(i_SzWd, e_SzWd), (i_ToWd, e_ToWd), (i_sBoundFor, e_sBoundFor), (i_iBoundFor, e_iBoundFor), (i_EqWd, e_EqWd)]) kp_xBoundFor F_xBoundFor [0] n (sq_xBoundFor_0 w) K = (
 K .normal (sq_xBoundFor_1 w)) := by kernel_rfl
def sq_xBoundFor_2 (w : Wd) : St := [(4, ⟨z0, [(false, [(C.pt (Pt.ptr 5 0 [] 12 0 0))])]⟩), (ce_xBoundFor_0 w), (12, ⟨z0, [(false, [.tr true (T.int IntKind.i64 1048576)])]⟩)]
theorem sg_xBoundFor_1 (w : Wd) (n : Nat) (K : Ex → St → Res) : atP prog (tabS [(i_SzWd, e_SzWd), (i_ToWd, e_ToWd), (i_sBoundFor, e_sBoundFor), (i_iBoundFor, e_iBoundFor), (i_EqWd, e_EqWd)]) kp_xBoundFor F_xBoundFor [1, 0] n (sq_xBoundFor_1 w) K = (
 K .normal (sq_xBoundFor_2 w)) := by kernel_rfl
def sq_xBoundFor_3 (w : Wd) (r1 : Int) : St := [(4, ⟨z0, [(false, [(C.pt (Pt.ptr 5 0 [] 12 0 0))])]⟩), (ce_xBoundFor_0 w), (12, ⟨z0, [(false, [.tr true (T.int IntKind.i64 r1)])]⟩)]
theorem sg_xBoundFor_2 (w : Wd) (n : Nat) (K : Ex → St → Res) : atP prog (tabS [(i_SzWd, e_SzWd), (i_ToWd, e_ToWd), (i_sBoundFor, e_sBoundFor), (i_iBoundFor, e_iBoundFor), (i_EqWd, e_EqWd)]) kp_xBoundFor F_xBoundFor [1, 1, 0] n (sq_xBoundFor_2 w) K = (
 entK ok_SzWd ea_SzWd (f_SzWd) [(0, true,
    [C.tr false (T.int IntKind.i64 w.c.1), C.tr false (T.int IntKind.i64 w.c.2),
      C.tr false (T.int IntKind.i64 w.c.3), C.tr false (T.int IntKind.i64 w.c.4),
      C.tr false (T.int IntKind.i64 w.c.5), C.tr false (T.int IntKind.i64 w.c.6), C.tr false (eL 1 rowB w.p.1),
      C.tr false (eL 1 rowI w.p.2), C.tr false (eL 1 rowI w.p.3), C.tr false (eL 13 Nd.cs w.3),
      C.tr false (eL 5 Ws.cs w.4), C.tr false (eL 1 rowI w.5)]),
  (0, false, [C.tr false (T.int IntKind.i64 1048576)])] fun (r1 : Int) =>
 K .normal (sq_xBoundFor_3 w r1)) := by kernel_rfl
def sq_xBoundFor_4 (w : Wd) : St := [(4, ⟨z0, [(false, [(C.pt (Pt.ptr 5 0 [] 12 0 0))])]⟩), (ce_xBoundFor_0 w), (44, ⟨z0, []⟩)]
theorem sg_xBoundFor_3 (w : Wd) (r1 : Int) (n : Nat) (K : Ex → St → Res) : atP prog (tabS [(i_SzWd, e_SzWd), (i_ToWd, e_ToWd), (i_sBoundFor, e_sBoundFor), (i_iBoundFor, e_iBoundFor), (i_EqWd, e_EqWd)]) kp_xBoundFor F_xBoundFor [1, 1, 1, 0] n (sq_xBoundFor_3 w r1) K = (
 bif decide (r1 < 0) then
  K .ret [(8, ⟨z0, [(false, [.tr true (T.bool true)])]⟩)]
 else
 K .normal (sq_xBoundFor_4 w)) := by kernel_rfl
def sq_xBoundFor_5 (w : Wd) (r3 : Int) : St := [(4, ⟨z0, [(false, [(C.pt (Pt.ptr 5 0 [] 12 0 0))])]⟩), (ce_xBoundFor_0 w), (16, ⟨z0, [(false, [.tr true (T.int IntKind.i64 r3)])]⟩)]
theorem sg_xBoundFor_4 (w : Wd) (n : Nat) (K : Ex → St → Res) : atP prog (tabS [(i_SzWd, e_SzWd), (i_ToWd, e_ToWd), (i_sBoundFor, e_sBoundFor), (i_iBoundFor, e_iBoundFor), (i_EqWd, e_EqWd)]) kp_xBoundFor F_xBoundFor [1, 1, 1, 1, 0] n (sq_xBoundFor_4 w) K = (
 entK ok_ToWd ea_ToWd (f_ToWd) [(0, true,
    [C.tr false (T.int IntKind.i64 w.c.1), C.tr false (T.int IntKind.i64 w.c.2),
      C.tr false (T.int IntKind.i64 w.c.3), C.tr false (T.int IntKind.i64 w.c.4),
      C.tr false (T.int IntKind.i64 w.c.5), C.tr false (T.int IntKind.i64 w.c.6), C.tr false (eL 1 rowB w.p.1),
      C.tr false (eL 1 rowI w.p.2), C.tr false (eL 1 rowI w.p.3), C.tr false (eL 13 Nd.cs w.3),
      C.tr false (eL 5 Ws.cs w.4), C.tr false (eL 1 rowI w.5)])] fun (r2 : Wd) =>
 gd ((0 + r2.p.1.length).ble r2.p.1.length) <|
 gd ((0 + r2.p.2.length).ble r2.p.2.length) <|
 gd ((0 + r2.p.3.length).ble r2.p.3.length) <|
 gd ((0 + r2.3.length).ble r2.3.length) <|
 gd ((0 + r2.4.length).ble r2.4.length) <|
 gd ((0 + r2.5.length).ble r2.5.length) <|
 entK ok_sBoundFor ea_sBoundFor (f_sBoundFor) [(0, true,
    [C.tr false (T.int IntKind.i64 r2.c.1), C.tr false (T.int IntKind.i64 r2.c.2),
      C.tr false (T.int IntKind.i64 r2.c.3), C.tr false (T.int IntKind.i64 r2.c.4),
      C.tr false (T.int IntKind.i64 r2.c.5), C.tr false (T.int IntKind.i64 r2.c.6),
      C.tr false (T.arr 1 r2.p.1.length (cutT 0 r2.p.1.length (eL 1 rowB r2.p.1).fn)),
      C.tr false (T.arr 1 r2.p.2.length (cutT 0 r2.p.2.length (eL 1 rowI r2.p.2).fn)),
      C.tr false (T.arr 1 r2.p.3.length (cutT 0 r2.p.3.length (eL 1 rowI r2.p.3).fn)),
      C.tr false (T.arr 13 r2.3.length (cutT 0 r2.3.length (eL 13 Nd.cs r2.3).fn)),
      C.tr false (T.arr 5 r2.4.length (cutT 0 r2.4.length (eL 5 Ws.cs r2.4).fn)),
      C.tr false (T.arr 1 r2.5.length (cutT 0 r2.5.length (eL 1 rowI r2.5).fn))])] fun (r3 : Int) =>
 K .normal (sq_xBoundFor_5 w r3)) := by kernel_rfl
def ce_xBoundFor_1 (r4 : Wd) : Nat × Ct := (21, ⟨z0, [(true, [.tr true (T.int IntKind.i64 r4.c.1), .tr true (T.int IntKind.i64 r4.c.2), .tr true (T.int IntKind.i64 r4.c.3), .tr true (T.int IntKind.i64 r4.c.4), .tr true (T.int IntKind.i64 r4.c.5), .tr true (T.int IntKind.i64 r4.c.6), .tr true (.arr (1) (r4.p.1.length) ((eL 1 rowB r4.p.1).fn)), .tr true (.arr (1) (r4.p.2.length) ((eL 1 rowI r4.p.2).fn)), .tr true (.arr (1) (r4.p.3.length) ((eL 1 rowI r4.p.3).fn)), .tr true (.arr (13) (r4.3.length) ((eL 13 Nd.cs r4.3).fn)), .tr true (.arr (5) (r4.4.length) ((eL 5 Ws.cs r4.4).fn)), .tr true (.arr (1) (r4.5.length) ((eL 1 rowI r4.5).fn))])]⟩)
def ce_xBoundFor_2 (r4 : Wd) : Nat × Ct := (64, ⟨z0, [(true, [.tr true (T.int IntKind.i64 r4.c.1), .tr true (T.int IntKind.i64 r4.c.2), .tr true (T.int IntKind.i64 r4.c.3), .tr true (T.int IntKind.i64 r4.c.4), .tr true (T.int IntKind.i64 r4.c.5), .tr true (T.int IntKind.i64 r4.c.6), .tr true (T.hole), .tr true (T.hole), .tr true (T.hole), .tr true (T.hole), .tr true (T.hole), .tr true (T.hole)])]⟩)
def sq_xBoundFor_6 (w : Wd) (r3 : Int) (r4 : Wd) : St := [(4, ⟨z0, [(false, [(C.pt (Pt.ptr 5 0 [] 12 0 0))])]⟩), (ce_xBoundFor_0 w), (16, ⟨z0, [(false, [.tr true (T.int IntKind.i64 r3)])]⟩), (20, ⟨z0, [(false, [(C.pt (Pt.ptr 21 0 [] 12 0 0))])]⟩), (ce_xBoundFor_1 r4), (ce_xBoundFor_2 r4)]
theorem sg_xBoundFor_5 (w : Wd) (r3 : Int) (n : Nat) (K : Ex → St → Res) : atP prog (tabS [(i_SzWd, e_SzWd), (i_ToWd, e_ToWd), (i_sBoundFor, e_sBoundFor), (i_iBoundFor, e_iBoundFor), (i_EqWd, e_EqWd)]) kp_xBoundFor F_xBoundFor [1, 1, 1, 1, 1, 0] n (sq_xBoundFor_5 w r3) K = (
 entK ok_ToWd ea_ToWd (f_ToWd) [(0, true,
    [C.tr false (T.int IntKind.i64 w.c.1), C.tr false (T.int IntKind.i64 w.c.2),
      C.tr false (T.int IntKind.i64 w.c.3), C.tr false (T.int IntKind.i64 w.c.4),
      C.tr false (T.int IntKind.i64 w.c.5), C.tr false (T.int IntKind.i64 w.c.6), C.tr false (eL 1 rowB w.p.1),
      C.tr false (eL 1 rowI w.p.2), C.tr false (eL 1 rowI w.p.3), C.tr false (eL 13 Nd.cs w.3),
      C.tr false (eL 5 Ws.cs w.4), C.tr false (eL 1 rowI w.5)])] fun (r4 : Wd) =>
 gd (r4.p.1.length.ble r4.p.1.length && true) <|
 gd (r4.p.2.length.ble r4.p.2.length && true) <|
 gd (r4.p.3.length.ble r4.p.3.length && true) <|
 gd (r4.3.length.ble r4.3.length && true) <|
 gd (r4.4.length.ble r4.4.length && true) <|
 gd (r4.5.length.ble r4.5.length && true) <|
 K .normal (sq_xBoundFor_6 w r3 r4)) := by kernel_rfl
def sq_xBoundFor_7 (w : Wd) (r3 : Int) (r4 : Wd) (r5 : Int) : St := [(4, ⟨z0, [(false, [(C.pt (Pt.ptr 5 0 [] 12 0 0))])]⟩), (ce_xBoundFor_0 w), (16, ⟨z0, [(false, [.tr true (T.int IntKind.i64 r3)])]⟩), (20, ⟨z0, [(false, [(C.pt (Pt.ptr 21 0 [] 12 0 0))])]⟩), (ce_xBoundFor_1 r4), (24, ⟨z0, [(false, [.tr true (T.int IntKind.i64 r5)])]⟩), (ce_xBoundFor_2 r4)]
theorem sg_xBoundFor_6 (w : Wd) (r3 : Int) (r4 : Wd) (n : Nat) (K : Ex → St → Res) : atP prog (tabS [(i_SzWd, e_SzWd), (i_ToWd, e_ToWd), (i_sBoundFor, e_sBoundFor), (i_iBoundFor, e_iBoundFor), (i_EqWd, e_EqWd)]) kp_xBoundFor F_xBoundFor [1, 1, 1, 1, 1, 1, 0] n (sq_xBoundFor_6 w r3 r4) K = (
 gd ((0 + r4.p.1.length).ble r4.p.1.length) <|
 gd ((0 + r4.p.2.length).ble r4.p.2.length) <|
 gd ((0 + r4.p.3.length).ble r4.p.3.length) <|
 gd ((0 + r4.3.length).ble r4.3.length) <|
 gd ((0 + r4.4.length).ble r4.4.length) <|
 gd ((0 + r4.5.length).ble r4.5.length) <|
 entK ok_iBoundFor ea_iBoundFor (f_iBoundFor) [(0, true,
    [C.tr false (T.int IntKind.i64 r4.c.1), C.tr false (T.int IntKind.i64 r4.c.2),
      C.tr false (T.int IntKind.i64 r4.c.3), C.tr false (T.int IntKind.i64 r4.c.4),
      C.tr false (T.int IntKind.i64 r4.c.5), C.tr false (T.int IntKind.i64 r4.c.6),
      C.tr false (T.arr 1 r4.p.1.length (cutT 0 r4.p.1.length (eL 1 rowB r4.p.1).fn)),
      C.tr false (T.arr 1 r4.p.2.length (cutT 0 r4.p.2.length (eL 1 rowI r4.p.2).fn)),
      C.tr false (T.arr 1 r4.p.3.length (cutT 0 r4.p.3.length (eL 1 rowI r4.p.3).fn)),
      C.tr false (T.arr 13 r4.3.length (cutT 0 r4.3.length (eL 13 Nd.cs r4.3).fn)),
      C.tr false (T.arr 5 r4.4.length (cutT 0 r4.4.length (eL 5 Ws.cs r4.4).fn)),
      C.tr false (T.arr 1 r4.5.length (cutT 0 r4.5.length (eL 1 rowI r4.5).fn))])] fun (r5 : Int) =>
 K .normal (sq_xBoundFor_7 w r3 r4 r5)) := by kernel_rfl
def sq_xBoundFor_8 (w : Wd) (r4 : Wd) : St := [(4, ⟨z0, [(false, [(C.pt (Pt.ptr 5 0 [] 12 0 0))])]⟩), (ce_xBoundFor_0 w), (20, ⟨z0, [(false, [(C.pt (Pt.ptr 21 0 [] 12 0 0))])]⟩), (ce_xBoundFor_1 r4), (ce_xBoundFor_2 r4), (84, ⟨z0, []⟩)]
theorem sg_xBoundFor_7 (w : Wd) (r3 : Int) (r4 : Wd) (r5 : Int) (n : Nat) (K : Ex → St → Res) : atP prog (tabS [(i_SzWd, e_SzWd), (i_ToWd, e_ToWd), (i_sBoundFor, e_sBoundFor), (i_iBoundFor, e_iBoundFor), (i_EqWd, e_EqWd)]) kp_xBoundFor F_xBoundFor [1, 1, 1, 1, 1, 1, 1, 0] n (sq_xBoundFor_7 w r3 r4 r5) K = (
 bif r5 != r3 then
  K .ret [(8, ⟨z0, [(false, [.tr true (T.bool false)])]⟩)]
 else
 K .normal (sq_xBoundFor_8 w r4)) := by kernel_rfl
def sq_xBoundFor_9 (w : Wd) : St := [(104, ⟨z0, []⟩)]
theorem sg_xBoundFor_8 (w : Wd) (r4 : Wd) (n : Nat) (K : Ex → St → Res) : atP prog (tabS [(i_SzWd, e_SzWd), (i_ToWd, e_ToWd), (i_sBoundFor, e_sBoundFor), (i_iBoundFor, e_iBoundFor), (i_EqWd, e_EqWd)]) kp_xBoundFor F_xBoundFor [1, 1, 1, 1, 1, 1, 1, 1, 0] n (sq_xBoundFor_8 w r4) K = (
 entK ok_ToWd ea_ToWd (f_ToWd) [(0, true,
    [C.tr false (T.int IntKind.i64 w.c.1), C.tr false (T.int IntKind.i64 w.c.2),
      C.tr false (T.int IntKind.i64 w.c.3), C.tr false (T.int IntKind.i64 w.c.4),
      C.tr false (T.int IntKind.i64 w.c.5), C.tr false (T.int IntKind.i64 w.c.6), C.tr false (eL 1 rowB w.p.1),
      C.tr false (eL 1 rowI w.p.2), C.tr false (eL 1 rowI w.p.3), C.tr false (eL 13 Nd.cs w.3),
      C.tr false (eL 5 Ws.cs w.4), C.tr false (eL 1 rowI w.5)])] fun (r6 : Wd) =>
 gd ((0 + r4.p.1.length).ble r4.p.1.length) <|
 gd ((0 + r4.p.2.length).ble r4.p.2.length) <|
 gd ((0 + r4.p.3.length).ble r4.p.3.length) <|
 gd ((0 + r4.3.length).ble r4.3.length) <|
 gd ((0 + r4.4.length).ble r4.4.length) <|
 gd ((0 + r4.5.length).ble r4.5.length) <|
 gd ((0 + r6.p.1.length).ble r6.p.1.length) <|
 gd ((0 + r6.p.2.length).ble r6.p.2.length) <|
 gd ((0 + r6.p.3.length).ble r6.p.3.length) <|
 gd ((0 + r6.3.length).ble r6.3.length) <|
 gd ((0 + r6.4.length).ble r6.4.length) <|
 gd ((0 + r6.5.length).ble r6.5.length) <|
 entK ok_EqWd ea_EqWd (f_EqWd) [(0, true,
    [C.tr false (T.int IntKind.i64 r4.c.1), C.tr false (T.int IntKind.i64 r4.c.2),
      C.tr false (T.int IntKind.i64 r4.c.3), C.tr false (T.int IntKind.i64 r4.c.4),
      C.tr false (T.int IntKind.i64 r4.c.5), C.tr false (T.int IntKind.i64 r4.c.6),
      C.tr false (T.arr 1 r4.p.1.length (cutT 0 r4.p.1.length (eL 1 rowB r4.p.1).fn)),
      C.tr false (T.arr 1 r4.p.2.length (cutT 0 r4.p.2.length (eL 1 rowI r4.p.2).fn)),
      C.tr false (T.arr 1 r4.p.3.length (cutT 0 r4.p.3.length (eL 1 rowI r4.p.3).fn)),
      C.tr false (T.arr 13 r4.3.length (cutT 0 r4.3.length (eL 13 Nd.cs r4.3).fn)),
      C.tr false (T.arr 5 r4.4.length (cutT 0 r4.4.length (eL 5 Ws.cs r4.4).fn)),
      C.tr false (T.arr 1 r4.5.length (cutT 0 r4.5.length (eL 1 rowI r4.5).fn))]),
  (0, true,
    [C.tr false (T.int IntKind.i64 r6.c.1), C.tr false (T.int IntKind.i64 r6.c.2),
      C.tr false (T.int IntKind.i64 r6.c.3), C.tr false (T.int IntKind.i64 r6.c.4),
      C.tr false (T.int IntKind.i64 r6.c.5), C.tr false (T.int IntKind.i64 r6.c.6),
      C.tr false (T.arr 1 r6.p.1.length (cutT 0 r6.p.1.length (eL 1 rowB r6.p.1).fn)),
      C.tr false (T.arr 1 r6.p.2.length (cutT 0 r6.p.2.length (eL 1 rowI r6.p.2).fn)),
      C.tr false (T.arr 1 r6.p.3.length (cutT 0 r6.p.3.length (eL 1 rowI r6.p.3).fn)),
      C.tr false (T.arr 13 r6.3.length (cutT 0 r6.3.length (eL 13 Nd.cs r6.3).fn)),
      C.tr false (T.arr 5 r6.4.length (cutT 0 r6.4.length (eL 5 Ws.cs r6.4).fn)),
      C.tr false (T.arr 1 r6.5.length (cutT 0 r6.5.length (eL 1 rowI r6.5).fn))])] fun (r7 : Bool) =>
 bif !r7 then
  K .ret [(8, ⟨z0, [(false, [.tr true (T.bool false)])]⟩)]
 else
 K .normal (sq_xBoundFor_9 w)) := by kernel_rfl
def sq_xBoundFor_10 (w : Wd) : St := [(8, ⟨z0, [(false, [.tr true (T.bool true)])]⟩)]
theorem sg_xBoundFor_9 (w : Wd) (n : Nat) (K : Ex → St → Res) : atP prog (tabS [(i_SzWd, e_SzWd), (i_ToWd, e_ToWd), (i_sBoundFor, e_sBoundFor), (i_iBoundFor, e_iBoundFor), (i_EqWd, e_EqWd)]) kp_xBoundFor F_xBoundFor [1, 1, 1, 1, 1, 1, 1, 1, 1, 0] n (sq_xBoundFor_9 w) K = (
 K .normal (sq_xBoundFor_10 w)) := by kernel_rfl
theorem sg_xBoundFor_10 (w : Wd) (n : Nat) (K : Ex → St → Res) : atP prog (tabS [(i_SzWd, e_SzWd), (i_ToWd, e_ToWd), (i_sBoundFor, e_sBoundFor), (i_iBoundFor, e_iBoundFor), (i_EqWd, e_EqWd)]) kp_xBoundFor F_xBoundFor [1, 1, 1, 1, 1, 1, 1, 1, 1, 1] n (sq_xBoundFor_10 w) K = (
 K .ret [(8, ⟨z0, [(false, [.tr true (T.bool true)])]⟩)]) := by kernel_rfl
theorem body_xBoundFor (w : Wd) (hw : z_Wd w) (hu : ndx w.l) (hx : wsx w.q) (n : Nat) : body prog (tabS [(i_SzWd, e_SzWd), (i_ToWd, e_ToWd), (i_sBoundFor, e_sBoundFor), (i_iBoundFor, e_iBoundFor), (i_EqWd, e_EqWd)]) kp_xBoundFor n F_xBoundFor [aR w.cs] = some (erB 1 true) := by
  have hzm := zm
  have hlm := lm
  have hbm := bm
  rw [body_at _ _ _ _ _ _ (by kernel_rfl), show initA F_xBoundFor.ntmps 0 [aR w.cs] = sq_xBoundFor_0 w from by kernel_rfl]
  have y0 : ok_SzWd (w, 1048576) := ⟨hw, by dsimp only; omega, by dsimp only; omega⟩
  by_cases e0 : (n_Wd w : Int) ≤ 1048576
  case neg =>
    rw [atP_seq (p := []) (q0 := [0]) (q1 := [1]) (by kernel_rfl) rfl rfl]
    rw [sg_xBoundFor_0]
    try simp (implicitDefEqProofs := false) only [lt_d, ge0_d, Int.toNat_natCast, blt_d, ble_self, beq_self, decide_true, cond_true, Bool.and_self, Bool.and_true, Bool.true_and, gd_true, Nat.zero_add, List.getD_cons_zero, List.getD_cons_succ, isI_int, toI_int, isB_bool, toB_bool, eL_T, arr_ln, arr_fn, arr_wd, arr_is, arr_get, eL_T, arr_fn, cut_all, bool_self, bool_nself, int_self, int_nself, Bool.not_true, Bool.not_false, cond_false, cond_true, nextP_n, nextP_r, Wd.cs, n_SzWd e0, decide_eq_true (show (-1 : Int) < 0 by omega)]
    rw [atP_seq (p := [1]) (q0 := [1, 0]) (q1 := [1, 1]) (by kernel_rfl) rfl rfl]
    rw [sg_xBoundFor_1]
    try simp (implicitDefEqProofs := false) only [lt_d, ge0_d, Int.toNat_natCast, blt_d, ble_self, beq_self, decide_true, cond_true, Bool.and_self, Bool.and_true, Bool.true_and, gd_true, Nat.zero_add, List.getD_cons_zero, List.getD_cons_succ, isI_int, toI_int, isB_bool, toB_bool, eL_T, arr_ln, arr_fn, arr_wd, arr_is, arr_get, eL_T, arr_fn, cut_all, bool_self, bool_nself, int_self, int_nself, Bool.not_true, Bool.not_false, cond_false, cond_true, nextP_n, nextP_r, Wd.cs, n_SzWd e0, decide_eq_true (show (-1 : Int) < 0 by omega)]
    rw [atP_seq (p := [1, 1]) (q0 := [1, 1, 0]) (q1 := [1, 1, 1]) (by kernel_rfl) rfl rfl]
    rw [sg_xBoundFor_2]
    try simp (implicitDefEqProofs := false) only [lt_d, ge0_d, Int.toNat_natCast, blt_d, ble_self, beq_self, decide_true, cond_true, Bool.and_self, Bool.and_true, Bool.true_and, gd_true, Nat.zero_add, List.getD_cons_zero, List.getD_cons_succ, isI_int, toI_int, isB_bool, toB_bool, eL_T, arr_ln, arr_fn, arr_wd, arr_is, arr_get, eL_T, arr_fn, cut_all, bool_self, bool_nself, int_self, int_nself, Bool.not_true, Bool.not_false, cond_false, cond_true, nextP_n, nextP_r, Wd.cs, n_SzWd e0, decide_eq_true (show (-1 : Int) < 0 by omega)]
    rw [entK_of (dm_SzWd y0) (iv_SzWd y0)]
    try simp (implicitDefEqProofs := false) only [lt_d, ge0_d, Int.toNat_natCast, blt_d, ble_self, beq_self, decide_true, cond_true, Bool.and_self, Bool.and_true, Bool.true_and, gd_true, Nat.zero_add, List.getD_cons_zero, List.getD_cons_succ, isI_int, toI_int, isB_bool, toB_bool, eL_T, arr_ln, arr_fn, arr_wd, arr_is, arr_get, eL_T, arr_fn, cut_all, bool_self, bool_nself, int_self, int_nself, Bool.not_true, Bool.not_false, cond_false, cond_true, nextP_n, nextP_r, Wd.cs, n_SzWd e0, decide_eq_true (show (-1 : Int) < 0 by omega)]
    rw [atP_seq (p := [1, 1, 1]) (q0 := [1, 1, 1, 0]) (q1 := [1, 1, 1, 1]) (by kernel_rfl) rfl rfl]
    rw [sg_xBoundFor_3]
    try simp (implicitDefEqProofs := false) only [lt_d, ge0_d, Int.toNat_natCast, blt_d, ble_self, beq_self, decide_true, cond_true, Bool.and_self, Bool.and_true, Bool.true_and, gd_true, Nat.zero_add, List.getD_cons_zero, List.getD_cons_succ, isI_int, toI_int, isB_bool, toB_bool, eL_T, arr_ln, arr_fn, arr_wd, arr_is, arr_get, eL_T, arr_fn, cut_all, bool_self, bool_nself, int_self, int_nself, Bool.not_true, Bool.not_false, cond_false, cond_true, nextP_n, nextP_r, Wd.cs, n_SzWd e0, decide_eq_true (show (-1 : Int) < 0 by omega)]
    rfl
  have f0 : ¬ 1048576 - (n_Wd w : Int) < 0 := by omega
  obtain ⟨g0, q0⟩ := okn_Wd (l := w) (by omega)
  have c0 : ok_sBoundFor w := dbt_ok e0 g0.2.2.2.1 g0.2.2.2.2.1 hu hx
  have c1 : ok_iBoundFor w := dbt_ok e0 g0.2.2.2.1 g0.2.2.2.2.1 hu hx
  have c2 : ok_EqWd (w, w) := q0
  rw [atP_seq (p := []) (q0 := [0]) (q1 := [1]) (by kernel_rfl) rfl rfl]
  rw [sg_xBoundFor_0]
  try simp (implicitDefEqProofs := false) only [lt_d, ge0_d, Int.toNat_natCast, blt_d, ble_self, beq_self, decide_true, cond_true, Bool.and_self, Bool.and_true, Bool.true_and, gd_true, Nat.zero_add, List.getD_cons_zero, List.getD_cons_succ, isI_int, toI_int, isB_bool, toB_bool, eL_T, arr_ln, arr_fn, arr_wd, arr_is, arr_get, eL_T, arr_fn, cut_all, bool_self, bool_nself, int_self, int_nself, Bool.not_true, Bool.not_false, cond_false, cond_true, nextP_n, nextP_r, Wd.cs, y_SzWd e0, decide_eq_false f0, d_ToWd, d_sBoundFor, d_iBoundFor, d_EqWd]
  rw [atP_seq (p := [1]) (q0 := [1, 0]) (q1 := [1, 1]) (by kernel_rfl) rfl rfl]
  rw [sg_xBoundFor_1]
  try simp (implicitDefEqProofs := false) only [lt_d, ge0_d, Int.toNat_natCast, blt_d, ble_self, beq_self, decide_true, cond_true, Bool.and_self, Bool.and_true, Bool.true_and, gd_true, Nat.zero_add, List.getD_cons_zero, List.getD_cons_succ, isI_int, toI_int, isB_bool, toB_bool, eL_T, arr_ln, arr_fn, arr_wd, arr_is, arr_get, eL_T, arr_fn, cut_all, bool_self, bool_nself, int_self, int_nself, Bool.not_true, Bool.not_false, cond_false, cond_true, nextP_n, nextP_r, Wd.cs, y_SzWd e0, decide_eq_false f0, d_ToWd, d_sBoundFor, d_iBoundFor, d_EqWd]
  rw [atP_seq (p := [1, 1]) (q0 := [1, 1, 0]) (q1 := [1, 1, 1]) (by kernel_rfl) rfl rfl]
  rw [sg_xBoundFor_2]
  try simp (implicitDefEqProofs := false) only [lt_d, ge0_d, Int.toNat_natCast, blt_d, ble_self, beq_self, decide_true, cond_true, Bool.and_self, Bool.and_true, Bool.true_and, gd_true, Nat.zero_add, List.getD_cons_zero, List.getD_cons_succ, isI_int, toI_int, isB_bool, toB_bool, eL_T, arr_ln, arr_fn, arr_wd, arr_is, arr_get, eL_T, arr_fn, cut_all, bool_self, bool_nself, int_self, int_nself, Bool.not_true, Bool.not_false, cond_false, cond_true, nextP_n, nextP_r, Wd.cs, y_SzWd e0, decide_eq_false f0, d_ToWd, d_sBoundFor, d_iBoundFor, d_EqWd]
  rw [entK_of (dm_SzWd y0) (iv_SzWd y0)]
  try simp (implicitDefEqProofs := false) only [lt_d, ge0_d, Int.toNat_natCast, blt_d, ble_self, beq_self, decide_true, cond_true, Bool.and_self, Bool.and_true, Bool.true_and, gd_true, Nat.zero_add, List.getD_cons_zero, List.getD_cons_succ, isI_int, toI_int, isB_bool, toB_bool, eL_T, arr_ln, arr_fn, arr_wd, arr_is, arr_get, eL_T, arr_fn, cut_all, bool_self, bool_nself, int_self, int_nself, Bool.not_true, Bool.not_false, cond_false, cond_true, nextP_n, nextP_r, Wd.cs, y_SzWd e0, decide_eq_false f0, d_ToWd, d_sBoundFor, d_iBoundFor, d_EqWd]
  rw [atP_seq (p := [1, 1, 1]) (q0 := [1, 1, 1, 0]) (q1 := [1, 1, 1, 1]) (by kernel_rfl) rfl rfl]
  rw [sg_xBoundFor_3]
  try simp (implicitDefEqProofs := false) only [lt_d, ge0_d, Int.toNat_natCast, blt_d, ble_self, beq_self, decide_true, cond_true, Bool.and_self, Bool.and_true, Bool.true_and, gd_true, Nat.zero_add, List.getD_cons_zero, List.getD_cons_succ, isI_int, toI_int, isB_bool, toB_bool, eL_T, arr_ln, arr_fn, arr_wd, arr_is, arr_get, eL_T, arr_fn, cut_all, bool_self, bool_nself, int_self, int_nself, Bool.not_true, Bool.not_false, cond_false, cond_true, nextP_n, nextP_r, Wd.cs, y_SzWd e0, decide_eq_false f0, d_ToWd, d_sBoundFor, d_iBoundFor, d_EqWd]
  rw [atP_seq (p := [1, 1, 1, 1]) (q0 := [1, 1, 1, 1, 0]) (q1 := [1, 1, 1, 1, 1]) (by kernel_rfl) rfl rfl]
  rw [sg_xBoundFor_4]
  try simp (implicitDefEqProofs := false) only [lt_d, ge0_d, Int.toNat_natCast, blt_d, ble_self, beq_self, decide_true, cond_true, Bool.and_self, Bool.and_true, Bool.true_and, gd_true, Nat.zero_add, List.getD_cons_zero, List.getD_cons_succ, isI_int, toI_int, isB_bool, toB_bool, eL_T, arr_ln, arr_fn, arr_wd, arr_is, arr_get, eL_T, arr_fn, cut_all, bool_self, bool_nself, int_self, int_nself, Bool.not_true, Bool.not_false, cond_false, cond_true, nextP_n, nextP_r, Wd.cs, y_SzWd e0, decide_eq_false f0, d_ToWd, d_sBoundFor, d_iBoundFor, d_EqWd]
  rw [entK_of (dm_ToWd g0) (iv_ToWd g0)]
  try simp (implicitDefEqProofs := false) only [lt_d, ge0_d, Int.toNat_natCast, blt_d, ble_self, beq_self, decide_true, cond_true, Bool.and_self, Bool.and_true, Bool.true_and, gd_true, Nat.zero_add, List.getD_cons_zero, List.getD_cons_succ, isI_int, toI_int, isB_bool, toB_bool, eL_T, arr_ln, arr_fn, arr_wd, arr_is, arr_get, eL_T, arr_fn, cut_all, bool_self, bool_nself, int_self, int_nself, Bool.not_true, Bool.not_false, cond_false, cond_true, nextP_n, nextP_r, Wd.cs, y_SzWd e0, decide_eq_false f0, d_ToWd, d_sBoundFor, d_iBoundFor, d_EqWd]
  rw [entK_of (dm_sBoundFor c0) (iv_sBoundFor c0)]
  try simp (implicitDefEqProofs := false) only [lt_d, ge0_d, Int.toNat_natCast, blt_d, ble_self, beq_self, decide_true, cond_true, Bool.and_self, Bool.and_true, Bool.true_and, gd_true, Nat.zero_add, List.getD_cons_zero, List.getD_cons_succ, isI_int, toI_int, isB_bool, toB_bool, eL_T, arr_ln, arr_fn, arr_wd, arr_is, arr_get, eL_T, arr_fn, cut_all, bool_self, bool_nself, int_self, int_nself, Bool.not_true, Bool.not_false, cond_false, cond_true, nextP_n, nextP_r, Wd.cs, y_SzWd e0, decide_eq_false f0, d_ToWd, d_sBoundFor, d_iBoundFor, d_EqWd]
  rw [atP_seq (p := [1, 1, 1, 1, 1]) (q0 := [1, 1, 1, 1, 1, 0]) (q1 := [1, 1, 1, 1, 1, 1]) (by kernel_rfl) rfl rfl]
  rw [sg_xBoundFor_5]
  try simp (implicitDefEqProofs := false) only [lt_d, ge0_d, Int.toNat_natCast, blt_d, ble_self, beq_self, decide_true, cond_true, Bool.and_self, Bool.and_true, Bool.true_and, gd_true, Nat.zero_add, List.getD_cons_zero, List.getD_cons_succ, isI_int, toI_int, isB_bool, toB_bool, eL_T, arr_ln, arr_fn, arr_wd, arr_is, arr_get, eL_T, arr_fn, cut_all, bool_self, bool_nself, int_self, int_nself, Bool.not_true, Bool.not_false, cond_false, cond_true, nextP_n, nextP_r, Wd.cs, y_SzWd e0, decide_eq_false f0, d_ToWd, d_sBoundFor, d_iBoundFor, d_EqWd]
  rw [entK_of (dm_ToWd g0) (iv_ToWd g0)]
  try simp (implicitDefEqProofs := false) only [lt_d, ge0_d, Int.toNat_natCast, blt_d, ble_self, beq_self, decide_true, cond_true, Bool.and_self, Bool.and_true, Bool.true_and, gd_true, Nat.zero_add, List.getD_cons_zero, List.getD_cons_succ, isI_int, toI_int, isB_bool, toB_bool, eL_T, arr_ln, arr_fn, arr_wd, arr_is, arr_get, eL_T, arr_fn, cut_all, bool_self, bool_nself, int_self, int_nself, Bool.not_true, Bool.not_false, cond_false, cond_true, nextP_n, nextP_r, Wd.cs, y_SzWd e0, decide_eq_false f0, d_ToWd, d_sBoundFor, d_iBoundFor, d_EqWd]
  rw [atP_seq (p := [1, 1, 1, 1, 1, 1]) (q0 := [1, 1, 1, 1, 1, 1, 0]) (q1 := [1, 1, 1, 1, 1, 1, 1]) (by kernel_rfl) rfl rfl]
  rw [sg_xBoundFor_6]
  try simp (implicitDefEqProofs := false) only [lt_d, ge0_d, Int.toNat_natCast, blt_d, ble_self, beq_self, decide_true, cond_true, Bool.and_self, Bool.and_true, Bool.true_and, gd_true, Nat.zero_add, List.getD_cons_zero, List.getD_cons_succ, isI_int, toI_int, isB_bool, toB_bool, eL_T, arr_ln, arr_fn, arr_wd, arr_is, arr_get, eL_T, arr_fn, cut_all, bool_self, bool_nself, int_self, int_nself, Bool.not_true, Bool.not_false, cond_false, cond_true, nextP_n, nextP_r, Wd.cs, y_SzWd e0, decide_eq_false f0, d_ToWd, d_sBoundFor, d_iBoundFor, d_EqWd]
  rw [entK_of (dm_iBoundFor c1) (iv_iBoundFor c1)]
  try simp (implicitDefEqProofs := false) only [lt_d, ge0_d, Int.toNat_natCast, blt_d, ble_self, beq_self, decide_true, cond_true, Bool.and_self, Bool.and_true, Bool.true_and, gd_true, Nat.zero_add, List.getD_cons_zero, List.getD_cons_succ, isI_int, toI_int, isB_bool, toB_bool, eL_T, arr_ln, arr_fn, arr_wd, arr_is, arr_get, eL_T, arr_fn, cut_all, bool_self, bool_nself, int_self, int_nself, Bool.not_true, Bool.not_false, cond_false, cond_true, nextP_n, nextP_r, Wd.cs, y_SzWd e0, decide_eq_false f0, d_ToWd, d_sBoundFor, d_iBoundFor, d_EqWd]
  rw [atP_seq (p := [1, 1, 1, 1, 1, 1, 1]) (q0 := [1, 1, 1, 1, 1, 1, 1, 0]) (q1 := [1, 1, 1, 1, 1, 1, 1, 1]) (by kernel_rfl) rfl rfl]
  rw [sg_xBoundFor_7]
  try simp (implicitDefEqProofs := false) only [lt_d, ge0_d, Int.toNat_natCast, blt_d, ble_self, beq_self, decide_true, cond_true, Bool.and_self, Bool.and_true, Bool.true_and, gd_true, Nat.zero_add, List.getD_cons_zero, List.getD_cons_succ, isI_int, toI_int, isB_bool, toB_bool, eL_T, arr_ln, arr_fn, arr_wd, arr_is, arr_get, eL_T, arr_fn, cut_all, bool_self, bool_nself, int_self, int_nself, Bool.not_true, Bool.not_false, cond_false, cond_true, nextP_n, nextP_r, Wd.cs, y_SzWd e0, decide_eq_false f0, d_ToWd, d_sBoundFor, d_iBoundFor, d_EqWd]
  rw [atP_seq (p := [1, 1, 1, 1, 1, 1, 1, 1]) (q0 := [1, 1, 1, 1, 1, 1, 1, 1, 0]) (q1 := [1, 1, 1, 1, 1, 1, 1, 1, 1]) (by kernel_rfl) rfl rfl]
  rw [sg_xBoundFor_8]
  try simp (implicitDefEqProofs := false) only [lt_d, ge0_d, Int.toNat_natCast, blt_d, ble_self, beq_self, decide_true, cond_true, Bool.and_self, Bool.and_true, Bool.true_and, gd_true, Nat.zero_add, List.getD_cons_zero, List.getD_cons_succ, isI_int, toI_int, isB_bool, toB_bool, eL_T, arr_ln, arr_fn, arr_wd, arr_is, arr_get, eL_T, arr_fn, cut_all, bool_self, bool_nself, int_self, int_nself, Bool.not_true, Bool.not_false, cond_false, cond_true, nextP_n, nextP_r, Wd.cs, y_SzWd e0, decide_eq_false f0, d_ToWd, d_sBoundFor, d_iBoundFor, d_EqWd]
  rw [entK_of (dm_ToWd g0) (iv_ToWd g0)]
  try simp (implicitDefEqProofs := false) only [lt_d, ge0_d, Int.toNat_natCast, blt_d, ble_self, beq_self, decide_true, cond_true, Bool.and_self, Bool.and_true, Bool.true_and, gd_true, Nat.zero_add, List.getD_cons_zero, List.getD_cons_succ, isI_int, toI_int, isB_bool, toB_bool, eL_T, arr_ln, arr_fn, arr_wd, arr_is, arr_get, eL_T, arr_fn, cut_all, bool_self, bool_nself, int_self, int_nself, Bool.not_true, Bool.not_false, cond_false, cond_true, nextP_n, nextP_r, Wd.cs, y_SzWd e0, decide_eq_false f0, d_ToWd, d_sBoundFor, d_iBoundFor, d_EqWd]
  rw [entK_of (dm_EqWd c2) (iv_EqWd c2)]
  try simp (implicitDefEqProofs := false) only [lt_d, ge0_d, Int.toNat_natCast, blt_d, ble_self, beq_self, decide_true, cond_true, Bool.and_self, Bool.and_true, Bool.true_and, gd_true, Nat.zero_add, List.getD_cons_zero, List.getD_cons_succ, isI_int, toI_int, isB_bool, toB_bool, eL_T, arr_ln, arr_fn, arr_wd, arr_is, arr_get, eL_T, arr_fn, cut_all, bool_self, bool_nself, int_self, int_nself, Bool.not_true, Bool.not_false, cond_false, cond_true, nextP_n, nextP_r, Wd.cs, y_SzWd e0, decide_eq_false f0, d_ToWd, d_sBoundFor, d_iBoundFor, d_EqWd]
  rw [atP_seq (p := [1, 1, 1, 1, 1, 1, 1, 1, 1]) (q0 := [1, 1, 1, 1, 1, 1, 1, 1, 1, 0]) (q1 := [1, 1, 1, 1, 1, 1, 1, 1, 1, 1]) (by kernel_rfl) rfl rfl]
  rw [sg_xBoundFor_9]
  try simp (implicitDefEqProofs := false) only [lt_d, ge0_d, Int.toNat_natCast, blt_d, ble_self, beq_self, decide_true, cond_true, Bool.and_self, Bool.and_true, Bool.true_and, gd_true, Nat.zero_add, List.getD_cons_zero, List.getD_cons_succ, isI_int, toI_int, isB_bool, toB_bool, eL_T, arr_ln, arr_fn, arr_wd, arr_is, arr_get, eL_T, arr_fn, cut_all, bool_self, bool_nself, int_self, int_nself, Bool.not_true, Bool.not_false, cond_false, cond_true, nextP_n, nextP_r, Wd.cs, y_SzWd e0, decide_eq_false f0, d_ToWd, d_sBoundFor, d_iBoundFor, d_EqWd]
  rw [sg_xBoundFor_10]
  try simp (implicitDefEqProofs := false) only [lt_d, ge0_d, Int.toNat_natCast, blt_d, ble_self, beq_self, decide_true, cond_true, Bool.and_self, Bool.and_true, Bool.true_and, gd_true, Nat.zero_add, List.getD_cons_zero, List.getD_cons_succ, isI_int, toI_int, isB_bool, toB_bool, eL_T, arr_ln, arr_fn, arr_wd, arr_is, arr_get, eL_T, arr_fn, cut_all, bool_self, bool_nself, int_self, int_nself, Bool.not_true, Bool.not_false, cond_false, cond_true, nextP_n, nextP_r, Wd.cs, y_SzWd e0, decide_eq_false f0, d_ToWd, d_sBoundFor, d_iBoundFor, d_EqWd]
  rfl
theorem sd_xBoundFor (w : Wd) (hw : z_Wd w) (hu : ndx w.l) (hx : wsx w.q) : Sound prog i_xBoundFor [aR w.cs] (erB 1 true).1 (erB 1 true).2 :=
  body_sound (φ := (tabS [(i_SzWd, e_SzWd), (i_ToWd, e_ToWd), (i_sBoundFor, e_sBoundFor), (i_iBoundFor, e_iBoundFor), (i_EqWd, e_EqWd)])) (tabS_cons s_SzWd (tabS_cons s_ToWd (tabS_cons s_sBoundFor (tabS_cons s_iBoundFor (tabS_cons s_EqWd tabS_nil))))) mixed (kp := kp_xBoundFor) (n := 0) func4 (c := bodyOf F_xBoundFor) (by kernel_rfl) (body_xBoundFor w hw hu hx 0) (name_ok (by kernel_rfl))
end Go.Mach.F
end
