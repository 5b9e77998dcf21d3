/- Lemmas and definitions of the proof (Dd Dg De Df Dh Di Dj Dk Fd Mk). Conditions: none. -/
import Derived.Test.YtefcnddlkdfjmaaZ3
set_option linter.all false
namespace Go.Mach.F
open Go Go.Mach Go.Proofs.Try
--=set_option maxRecDepth 100000
def i_ConH : Nat := 63
noncomputable abbrev F_ConH : Func := f63
def kp_ConH : List (Nat × List Nat) := [(0, [0, 12, 13]), (1, [16])]
noncomputable def e_ConH : Ent := inl [] prog (tabS [(i_idHd, e_idHd)]) kp_ConH 0 F_ConH
theorem s_ConH : EntOk prog i_ConH e_ConH := inl_ok (tabS_cons s_idHd tabS_nil) mixed (c := bodyOf F_ConH) func63 (by kernel_rfl) (name_ok (by kernel_rfl))
def allK (rs : List Rm) : List Hd := rs.flatMap Rm.kids
def tlK (rs : List Rm) (h : Hd) : Nat := bif decide (rof rs h < 0) then 0 else (rs.getD (rof rs h).toNat zRm).tags.length
def gatH : Nat → List Rm → Hd → List Hd × List Int → List Hd × List Int
  | 0, _, _, a => a
  | n + 1, rs, h, a => bif hasH a.1 h then a else bif decide (rof rs h < 0) then (a.1 ++ [h], a.2) else (rs.getD (rof rs h).toNat zRm).kids.foldl (fun a kid => gatH n rs kid a) (a.1 ++ [h], a.2 ++ (rs.getD (rof rs h).toNat zRm).tags.reverse)
def toldS : Nat → List Rm → Hd → List Hd → List Int × List Hd
  | 0, _, _, a => ([], a)
  | n + 1, rs, h, a => bif decide (rof rs h < 0) || hasH a h then ([], a) else (rs.getD (rof rs h).toNat zRm).kids.foldl (fun b kid => (b.1 ++ (toldS n rs kid b.2).1, (toldS n rs kid b.2).2)) ((rs.getD (rof rs h).toNat zRm).tags.reverse, a ++ [h])
def sumL (f : Hd → Nat) (l : List Hd) : Nat := (l.map f).foldr (· + ·) 0
/-- What a walk down has met: handles of the model, or the first one, each once. -/
structure MetOk (rs : List Rm) (h0 : Hd) (met : List Hd) : Prop where
  nd : met.Nodup
  sub : ∀ x ∈ met, x = h0 ∨ x ∈ allK rs
structure GatOk (k : Nat) (m : Ml) (h : Hd) (met : List Hd) : Prop where
  rooms : ok_RmS m.rooms
  kids : (allK m.rooms).length < LM
  tags : cntL (fun r => r.tags.length) m.rooms ≤ LM
  walk : ∃ h0, MetOk m.rooms h0 met ∧ (h = h0 ∨ h ∈ allK m.rooms)
  fuel : (allK m.rooms).length + 2 ≤ met.length + k
def ok_gat (k : Nat) (x : Ml × Hd × List Hd × List Int) : Prop := GatOk k x.1 x.2.1 x.2.2.1 ∧ x.2.2.2.length ≤ sumL (tlK x.1.rooms) x.2.2.1
def ea_gat (x : Ml × Hd × List Hd × List Int) : List Arg := [aR x.1.cs, aR x.2.1.cs, vT (eL 2 Hd.cs x.2.2.1), vT (eI x.2.2.2)]
def f_gat (k : Nat) (x : Ml × Hd × List Hd × List Int) : List Hd × List Int := gatH k x.1.rooms x.2.1 (x.2.2.1, x.2.2.2)
noncomputable def e_gat (k : Nat) : Ent := ent [0, 0, 3, 3] (ok_gat k) ea_gat (fun (x : List Hd × List Int) => ([oT (eL 2 Hd.cs x.1), oT (eI x.2)], [nul, nul, nul, nul])) (f_gat k)
def ok_told (k : Nat) (x : Ml × Hd × List Hd) : Prop := GatOk k x.1 x.2.1 x.2.2
def ea_told (x : Ml × Hd × List Hd) : List Arg := [aR x.1.cs, aR x.2.1.cs, vT (eL 2 Hd.cs x.2.2)]
def f_told (k : Nat) (x : Ml × Hd × List Hd) : List Int × List Hd := toldS k x.1.rooms x.2.1 x.2.2
noncomputable def e_told (k : Nat) : Ent := ent [0, 0, 3] (ok_told k) ea_told (fun (x : List Int × List Hd) => ([oT (eI x.1), oT (eL 2 Hd.cs x.2)], [nul, nul, nul])) (f_told k)
theorem ea_gat_inj (x y : Ml × Hd × List Hd × List Int) (h : ea_gat x = ea_gat y) : x = y := by
  obtain ⟨m1, h1, a1, b1⟩ := x
  obtain ⟨m2, h2, a2, b2⟩ := y
  simp only [ea_gat, List.cons.injEq, and_true, true_and] at h
  obtain ⟨e0, e1, e2, e3⟩ := h
  obtain rfl := Ml.cs_ext (aR_inj e0)
  obtain rfl := Hd.cs_ext (aR_inj e1)
  obtain rfl := eL_inj Hd.cs_inj (vT_inj e2)
  obtain rfl := eI_inj (vT_inj e3)
  rfl
theorem ea_told_inj (x y : Ml × Hd × List Hd) (h : ea_told x = ea_told y) : x = y := by
  obtain ⟨m1, h1, a1⟩ := x
  obtain ⟨m2, h2, a2⟩ := y
  simp only [ea_told, List.cons.injEq, and_true, true_and] at h
  obtain ⟨e0, e1, e2⟩ := h
  obtain rfl := Ml.cs_ext (aR_inj e0)
  obtain rfl := Hd.cs_ext (aR_inj e1)
  obtain rfl := eL_inj Hd.cs_inj (vT_inj e2)
  rfl
theorem dm_gat {k : Nat} {m : Ml} {h : Hd} {a : List Hd} {b : List Int} (h0 : ok_gat k (m, h, a, b)) : dom (ok_gat k) ea_gat [(0, true, [C.tr false (T.int IntKind.i64 m.c.chunks), C.tr false (T.int IntKind.i64 m.c.size), C.tr false (T.int IntKind.i64 m.c.slots), C.tr false (T.int IntKind.i64 m.c.tax), C.tr false (T.int IntKind.i64 m.c.slice), C.tr false (T.int IntKind.i64 m.c.gens), C.tr false (T.arr 11 m.rooms.length (atL Rm.cs m.rooms)), C.tr false (T.arr 1 m.log.length (atL rowI m.log))]), (0, true, [C.tr false (T.int IntKind.i64 h.slot), C.tr false (T.int IntKind.i64 h.gen)]), (3, false, [C.tr true (T.arr 2 a.length (atL Hd.cs a))]), (3, false, [C.tr true (T.arr 1 b.length (atL rowI b))])] = true := dom_ea (ea := ea_gat) (x := (m, h, a, b)) h0
theorem iv_gat {k : Nat} {m : Ml} {h : Hd} {a : List Hd} {b : List Int} (h0 : ok_gat k (m, h, a, b)) : inv (ok_gat k) ea_gat [(0, true, [C.tr false (T.int IntKind.i64 m.c.chunks), C.tr false (T.int IntKind.i64 m.c.size), C.tr false (T.int IntKind.i64 m.c.slots), C.tr false (T.int IntKind.i64 m.c.tax), C.tr false (T.int IntKind.i64 m.c.slice), C.tr false (T.int IntKind.i64 m.c.gens), C.tr false (T.arr 11 m.rooms.length (atL Rm.cs m.rooms)), C.tr false (T.arr 1 m.log.length (atL rowI m.log))]), (0, true, [C.tr false (T.int IntKind.i64 h.slot), C.tr false (T.int IntKind.i64 h.gen)]), (3, false, [C.tr true (T.arr 2 a.length (atL Hd.cs a))]), (3, false, [C.tr true (T.arr 1 b.length (atL rowI b))])] = (m, h, a, b) := inv_ea ea_gat_inj (x := (m, h, a, b)) h0
theorem dm_told {k : Nat} {m : Ml} {h : Hd} {a : List Hd} (h0 : ok_told k (m, h, a)) : dom (ok_told k) ea_told [(0, true, [C.tr false (T.int IntKind.i64 m.c.chunks), C.tr false (T.int IntKind.i64 m.c.size), C.tr false (T.int IntKind.i64 m.c.slots), C.tr false (T.int IntKind.i64 m.c.tax), C.tr false (T.int IntKind.i64 m.c.slice), C.tr false (T.int IntKind.i64 m.c.gens), C.tr false (T.arr 11 m.rooms.length (atL Rm.cs m.rooms)), C.tr false (T.arr 1 m.log.length (atL rowI m.log))]), (0, true, [C.tr false (T.int IntKind.i64 h.slot), C.tr false (T.int IntKind.i64 h.gen)]), (3, false, [C.tr true (T.arr 2 a.length (atL Hd.cs a))])] = true := dom_ea (ea := ea_told) (x := (m, h, a)) h0
theorem iv_told {k : Nat} {m : Ml} {h : Hd} {a : List Hd} (h0 : ok_told k (m, h, a)) : inv (ok_told k) ea_told [(0, true, [C.tr false (T.int IntKind.i64 m.c.chunks), C.tr false (T.int IntKind.i64 m.c.size), C.tr false (T.int IntKind.i64 m.c.slots), C.tr false (T.int IntKind.i64 m.c.tax), C.tr false (T.int IntKind.i64 m.c.slice), C.tr false (T.int IntKind.i64 m.c.gens), C.tr false (T.arr 11 m.rooms.length (atL Rm.cs m.rooms)), C.tr false (T.arr 1 m.log.length (atL rowI m.log))]), (0, true, [C.tr false (T.int IntKind.i64 h.slot), C.tr false (T.int IntKind.i64 h.gen)]), (3, false, [C.tr true (T.arr 2 a.length (atL Hd.cs a))])] = (m, h, a) := inv_ea ea_told_inj (x := (m, h, a)) h0
def i_gat : Nat := 60
noncomputable abbrev F_gat : Func := f60
def kp_gat : List (Nat × List Nat) := [(0, [8, 12, 16, 17, 20, 21, 10, 14]), (1, [8, 12, 16, 17, 20, 21, 60, 10, 14]), (2, [32, 36, 10, 14]), (3, [8, 12, 16, 17, 20, 21, 10, 14]), (4, [8, 12, 16, 17, 40, 10, 14]), (5, [8, 12, 16, 17, 40, 104, 10, 14]), (6, [32, 36, 10, 14]), (7, [8, 12, 16, 17, 40, 10, 14]), (8, [8, 12, 16, 17, 152, 156, 160, 164, 168, 172, 176, 180, 10, 14]), (9, [8, 12, 16, 17, 152, 156, 160, 164, 168, 172, 176, 180, 184, 10, 14]), (10, [8, 12, 16, 17, 48, 49, 152, 156, 160, 164, 168, 172, 176, 180, 10, 14]), (11, [8, 12, 16, 17, 152, 156, 160, 164, 168, 172, 176, 180, 10, 14]), (12, [8, 12, 16, 17, 152, 156, 160, 164, 168, 172, 176, 180, 10, 14]), (13, [32, 36, 10, 14])]
def ts_gat : List Nat := [0, 0, 3, 3]
def st_gat_1 (k : Nat) (m : Ml) (h : Hd) (a : List Hd) (b : List Int) (r2 : Int) (nx8 : Nat) (fx8 : Nat → Nat → T) (nx12 : Nat) (fx12 : Nat → Nat → T) (x180 : Int) : St := [(8, ⟨z0, [(false, [.tr true (.arr (2) (nx8) (fx8))])]⟩), (12, ⟨z0, [(false, [.tr true (.arr (1) (nx12) (fx12))])]⟩), (16, ⟨z0, [(false, [(C.pt (Pt.ptr 17 0 [] 8 0 0))])]⟩), (17, ⟨z0, [(true, [.tr true (T.int IntKind.i64 m.c.1), .tr true (T.int IntKind.i64 m.c.2), .tr true (T.int IntKind.i64 m.c.3), .tr true (T.int IntKind.i64 m.c.4), .tr true (T.int IntKind.i64 m.c.5), .tr true (T.int IntKind.i64 m.c.6), .tr false (eL 11 Rm.cs m.2), .tr false (eL 1 rowI m.3)])]⟩), (152, ⟨z0, [(false, [(C.pt (Pt.ptr 17 0 [] 8 0 6))])]⟩), (156, ⟨z0, [(false, [.tr false (eL 11 Rm.cs m.2)])]⟩), (160, ⟨z0, [(false, [.tr true (T.int IntKind.i64 r2)])]⟩), (164, ⟨z0, [(false, [(C.pt (Pt.pim 11 (atL Rm.cs m.2 r2.toNat)))])]⟩), (168, ⟨z0, [(false, [(C.pt (Pt.pim 7 fun i => atL Rm.cs m.2 r2.toNat (4 + i)))])]⟩), (172, ⟨z0, [(false, [.tr false (.arr (2) ((atL Rm.cs m.2 r2.toNat 4).ln) ((atL Rm.cs m.2 r2.toNat 4).fn))])]⟩), (176, ⟨z0, [(false, [.tr true (T.int IntKind.i64 (↑(atL Rm.cs m.2 r2.toNat 4).ln : Int))])]⟩), (180, ⟨z0, [(false, [.tr true (T.int IntKind.i64 x180)])]⟩)]
def ex_gat_1_1 (k : Nat) (m : Ml) (h : Hd) (a : List Hd) (b : List Int) (r2 : Int) (nx8 : Nat) (fx8 : Nat → Nat → T) (nx12 : Nat) (fx12 : Nat → Nat → T) (x180 : Int) : St := [(8, ⟨z0, [(false, [.tr true (.arr (2) (nx8) (fx8))])]⟩), (12, ⟨z0, [(false, [.tr true (.arr (1) (nx12) (fx12))])]⟩), (16, ⟨z0, [(false, [(C.pt (Pt.ptr 17 0 [] 8 0 0))])]⟩), (17, ⟨z0, [(true, [.tr true (T.int IntKind.i64 m.c.1), .tr true (T.int IntKind.i64 m.c.2), .tr true (T.int IntKind.i64 m.c.3), .tr true (T.int IntKind.i64 m.c.4), .tr true (T.int IntKind.i64 m.c.5), .tr true (T.int IntKind.i64 m.c.6), .tr false (eL 11 Rm.cs m.2), .tr false (eL 1 rowI m.3)])]⟩), (152, ⟨z0, [(false, [(C.pt (Pt.ptr 17 0 [] 8 0 6))])]⟩), (156, ⟨z0, [(false, [.tr false (eL 11 Rm.cs m.2)])]⟩), (160, ⟨z0, [(false, [.tr true (T.int IntKind.i64 r2)])]⟩), (164, ⟨z0, [(false, [(C.pt (Pt.pim 11 (atL Rm.cs m.2 r2.toNat)))])]⟩), (168, ⟨z0, [(false, [(C.pt (Pt.pim 7 fun i => atL Rm.cs m.2 r2.toNat (4 + i)))])]⟩), (172, ⟨z0, [(false, [.tr false (.arr (2) ((atL Rm.cs m.2 r2.toNat 4).ln) ((atL Rm.cs m.2 r2.toNat 4).fn))])]⟩), (176, ⟨z0, [(false, [.tr true (T.int IntKind.i64 (↑(atL Rm.cs m.2 r2.toNat 4).ln : Int))])]⟩), (180, ⟨z0, [(false, [.tr true (T.int IntKind.i64 x180)])]⟩), (184, ⟨z0, []⟩)]
theorem round_gat_1 (k : Nat) (m : Ml) (h : Hd) (a : List Hd) (b : List Int) (r2 : Int) (nx8 : Nat) (fx8 : Nat → Nat → T) (nx12 : Nat) (fx12 : Nat → Nat → T) (x180 : Int) (n : Nat) (K : Ex → St → Res) : roundAt prog (tabS [(i_ConH, e_ConH), (i_iRoomOf, e_iRoomOf), (i_iTagsDown, e_iTagsDown), (i_gat, e_gat k)]) kp_gat F_gat [1, 1, 1, 1, 1, 1, 0, 1, 0] n (st_gat_1 k m h a b r2 nx8 fx8 nx12 fx12 x180) K = (
 bif decide (x180 < (↑(atL Rm.cs m.2 r2.toNat 4).ln : Int)) then
  gd (decide (0 ≤ x180) && (x180.toNat.blt (atL Rm.cs m.2 r2.toNat 4).ln && true)) <|
  gd (T.isI IntKind.i64 ((atL Rm.cs m.2 r2.toNat 4).fn x180.toNat 0) &&
  T.isI IntKind.i64 ((atL Rm.cs m.2 r2.toNat 4).fn x180.toNat 1)) <|
  gd (nx8.ble nx8 && true) <|
  gd (nx12.ble nx12 && true) <|
  entK (ok_gat k) ea_gat (f_gat k) [(0, true,
    [C.tr false (T.int IntKind.i64 m.c.1), C.tr false (T.int IntKind.i64 m.c.2),
      C.tr false (T.int IntKind.i64 m.c.3), C.tr false (T.int IntKind.i64 m.c.4),
      C.tr false (T.int IntKind.i64 m.c.5), C.tr false (T.int IntKind.i64 m.c.6), C.tr false (eL 11 Rm.cs m.2),
      C.tr false (eL 1 rowI m.3)]),
  (0, true,
    [C.tr false (T.int IntKind.i64 ((atL Rm.cs m.2 r2.toNat 4).fn x180.toNat 0).toI),
      C.tr false (T.int IntKind.i64 ((atL Rm.cs m.2 r2.toNat 4).fn x180.toNat 1).toI)]),
  (3, false, [C.tr true (T.arr 2 nx8 fx8)]), (3, false, [C.tr true (T.arr 1 nx12 fx12)])] fun (r4 : List Hd × List Int) =>
  gd (r4.1.length.ble r4.1.length && true) <|
  gd (r4.2.length.ble r4.2.length && true) <|
  K .normal (st_gat_1 k m h a b r2 (r4.1.length) ((eL 2 Hd.cs r4.1).fn) (r4.2.length) (atL rowI r4.2) (IntKind.i64.wrap (x180 + 1)))
 else
 K (.exit 0) (ex_gat_1_1 k m h a b r2 nx8 fx8 nx12 fx12 x180)) := by kernel_rfl
theorem post_gat_1_1 (k : Nat) (m : Ml) (h : Hd) (a : List Hd) (b : List Int) (r2 : Int) (nx8 : Nat) (fx8 : Nat → Nat → T) (nx12 : Nat) (fx12 : Nat → Nat → T) (x180 : Int) (n : Nat) : contAt prog (tabS [(i_ConH, e_ConH), (i_iRoomOf, e_iRoomOf), (i_iTagsDown, e_iTagsDown), (i_gat, e_gat k)]) kp_gat F_gat ts_gat [1, 1, 1, 1, 1, 1, 0, 1, 0] [] n (.exit 0) (ex_gat_1_1 k m h a b r2 nx8 fx8 nx12 fx12 x180) = (
 gd (nx8.ble nx8 && true) <|
 gd (nx12.ble nx12 && true) <|
 gd (nx8.ble nx8 && true) <|
 gd (nx12.ble nx12 && true) <|
 some ([(false, [.tr true (.arr (2) (nx8) (fx8))]), (false, [.tr true (.arr (1) (nx12) (fx12))])], [(false, []), (false, []), (false, []), (false, [])])) := by kernel_rfl
theorem pre_gat (k : Nat) (m : Ml) (h : Hd) (a : List Hd) (b : List Int) (n : Nat) : body prog (tabS [(i_ConH, e_ConH), (i_iRoomOf, e_iRoomOf), (i_iTagsDown, e_iTagsDown), (i_gat, e_gat k)]) kp_gat n F_gat [aR m.cs, aR h.cs, vT (eL 2 Hd.cs a), vT (eI b)] = (
 gd ((0 + a.length).ble a.length) <|
 entK ok_idHd ea_idHd (f_idHd) [(0, false, [C.tr false (T.arr 2 a.length (cutT 0 a.length (eL 2 Hd.cs a).fn))]),
  (0, true, [C.tr false (T.int IntKind.i64 h.1), C.tr false (T.int IntKind.i64 h.2)])] fun (r1 : Int) =>
 bif decide (0 ≤ r1) then
  gd (a.length.ble a.length && true) <|
  gd (b.length.ble b.length && true) <|
  gd (a.length.ble a.length && true) <|
  gd (b.length.ble b.length && true) <|
  some ([(false, [.tr true (.arr (2) (a.length) ((eL 2 Hd.cs a).fn))]), (false, [.tr true (.arr (1) (b.length) (atL rowI b))])], [(false, []), (false, []), (false, []), (false, [])])
 else
 gd (a.length.ble a.length && true) <|
 gd (((a.length + 1) * 16).ble 70368744177664 && (a.length + 1).ble 70368744177664) <|
 gd ((a.length + 1).ble (a.length + 1) && true) <|
 entK ok_iRoomOf ea_iRoomOf (f_iRoomOf) [(0, true,
    [C.tr false (T.int IntKind.i64 m.c.1), C.tr false (T.int IntKind.i64 m.c.2),
      C.tr false (T.int IntKind.i64 m.c.3), C.tr false (T.int IntKind.i64 m.c.4),
      C.tr false (T.int IntKind.i64 m.c.5), C.tr false (T.int IntKind.i64 m.c.6), C.tr false (eL 11 Rm.cs m.2),
      C.tr false (eL 1 rowI m.3)]),
  (0, true, [C.tr false (T.int IntKind.i64 h.1), C.tr false (T.int IntKind.i64 h.2)])] fun (r2 : Int) =>
 bif decide (r2 < 0) then
  gd ((a.length + 1).ble (a.length + 1) && true) <|
  gd (b.length.ble b.length && true) <|
  gd ((a.length + 1).ble (a.length + 1) && true) <|
  gd (b.length.ble b.length && true) <|
  some ([(false, [.tr true (.arr (2) (a.length + 1) (appF a.length (eL 2 Hd.cs a).fn (plainF (cutT 0 1 (rowsT [[T.int IntKind.i64 h.1, T.int IntKind.i64 h.2]])))))]), (false, [.tr true (.arr (1) (b.length) (atL rowI b))])], [(false, []), (false, []), (false, []), (false, [])])
 else
 gd (decide (0 ≤ r2) && (r2.toNat.blt m.2.length && true)) <|
 gd ((atL Rm.cs m.2 r2.toNat 10).isArr && (atL Rm.cs m.2 r2.toNat 10).wd.beq 1) <|
 entK ok_iTagsDown ea_iTagsDown (f_iTagsDown) [(0, false, [C.tr false (T.arr 1 (atL Rm.cs m.2 r2.toNat 10).ln (atL Rm.cs m.2 r2.toNat 10).fn)])] fun (r3 : List Int) =>
 gd (b.length.ble b.length && true) <|
 gd ((0 + r3.length).ble r3.length) <|
 gd (((b.length + r3.length) * 8).ble 70368744177664 && (b.length + r3.length).ble 70368744177664) <|
 gd ((b.length + r3.length).ble (b.length + r3.length) && true) <|
 gd (decide (0 ≤ r2) && (r2.toNat.blt m.2.length && true)) <|
 gd ((atL Rm.cs m.2 r2.toNat 4).isArr && (atL Rm.cs m.2 r2.toNat 4).wd.beq 2) <|
 loopAt prog (tabS [(i_ConH, e_ConH), (i_iRoomOf, e_iRoomOf), (i_iTagsDown, e_iTagsDown), (i_gat, e_gat k)]) kp_gat F_gat [1, 1, 1, 1, 1, 1, 0, 1, 0] n n (st_gat_1 k m h a b r2 (a.length + 1) (appF a.length (eL 2 Hd.cs a).fn (plainF (cutT 0 1 (rowsT [[T.int IntKind.i64 h.1, T.int IntKind.i64 h.2]])))) (b.length + r3.length) (appF b.length (atL rowI b) (plainF (cutT 0 r3.length (atL rowI r3)))) (0)) (contAt prog (tabS [(i_ConH, e_ConH), (i_iRoomOf, e_iRoomOf), (i_iTagsDown, e_iTagsDown), (i_gat, e_gat k)]) kp_gat F_gat ts_gat [1, 1, 1, 1, 1, 1, 0, 1, 0] [] n)) := by kernel_rfl
def i_told : Nat := 53
noncomputable abbrev F_told : Func := f53
def kp_told : List (Nat × List Nat) := [(0, [8, 12, 13, 16, 17, 76, 80, 84, 10]), (1, [8, 12, 13, 16, 17, 32, 76, 80, 84, 10]), (2, [8, 12, 13, 16, 17, 32, 88, 10]), (3, [24, 28, 10]), (4, [8, 12, 13, 32, 10]), (5, [8, 12, 13, 32, 36, 10]), (6, [8, 12, 13, 32, 36, 40, 10]), (7, [8, 12, 13, 32, 36, 40, 184, 10]), (8, [8, 12, 13, 32, 36, 40, 10]), (9, [12, 13, 32, 36, 40, 44, 48, 10]), (10, [12, 13, 32, 36, 40, 48, 10]), (11, [8, 12, 13, 32, 36, 40, 10]), (12, [24, 28, 10])]
def ts_told : List Nat := [0, 0, 3]
def st_told_1 (k : Nat) (m : Ml) (h : Hd) (a : List Hd) (r1 : Int) (nx8 : Nat) (fx8 : Nat → Nat → T) (nx36 : Nat) (fx36 : Nat → Nat → T) (x40 : Int) : St := [(8, ⟨z0, [(false, [.tr true (.arr (2) (nx8) (fx8))])]⟩), (12, ⟨z0, [(false, [(C.pt (Pt.ptr 13 0 [] 8 0 0))])]⟩), (13, ⟨z0, [(true, [.tr true (T.int IntKind.i64 m.c.1), .tr true (T.int IntKind.i64 m.c.2), .tr true (T.int IntKind.i64 m.c.3), .tr true (T.int IntKind.i64 m.c.4), .tr true (T.int IntKind.i64 m.c.5), .tr true (T.int IntKind.i64 m.c.6), .tr false (eL 11 Rm.cs m.2), .tr false (eL 1 rowI m.3)])]⟩), (32, ⟨z0, [(false, [.tr true (T.int IntKind.i64 r1)])]⟩), (36, ⟨z0, [(false, [.tr true (.arr (1) (nx36) (fx36))])]⟩), (40, ⟨z0, [(false, [.tr true (T.int IntKind.i64 x40)])]⟩)]
def ex_told_1_1 (k : Nat) (m : Ml) (h : Hd) (a : List Hd) (r1 : Int) (nx8 : Nat) (fx8 : Nat → Nat → T) (nx36 : Nat) (fx36 : Nat → Nat → T) (x40 : Int) : St := [(8, ⟨z0, [(false, [.tr true (.arr (2) (nx8) (fx8))])]⟩), (12, ⟨z0, [(false, [(C.pt (Pt.ptr 13 0 [] 8 0 0))])]⟩), (13, ⟨z0, [(true, [.tr true (T.int IntKind.i64 m.c.1), .tr true (T.int IntKind.i64 m.c.2), .tr true (T.int IntKind.i64 m.c.3), .tr true (T.int IntKind.i64 m.c.4), .tr true (T.int IntKind.i64 m.c.5), .tr true (T.int IntKind.i64 m.c.6), .tr false (eL 11 Rm.cs m.2), .tr false (eL 1 rowI m.3)])]⟩), (32, ⟨z0, [(false, [.tr true (T.int IntKind.i64 r1)])]⟩), (36, ⟨z0, [(false, [.tr true (.arr (1) (nx36) (fx36))])]⟩), (40, ⟨z0, [(false, [.tr true (T.int IntKind.i64 x40)])]⟩), (184, ⟨z0, []⟩)]
theorem round_told_1 (k : Nat) (m : Ml) (h : Hd) (a : List Hd) (r1 : Int) (nx8 : Nat) (fx8 : Nat → Nat → T) (nx36 : Nat) (fx36 : Nat → Nat → T) (x40 : Int) (n : Nat) (K : Ex → St → Res) : roundAt prog (tabS [(i_sRoomOf, e_sRoomOf), (i_sHasH, e_sHasH), (i_sTagsDown, e_sTagsDown), (i_told, e_told k)]) kp_told F_told [1, 1, 1, 1, 1, 0, 1, 0] n (st_told_1 k m h a r1 nx8 fx8 nx36 fx36 x40) K = (
 gd (decide (0 ≤ r1) && (r1.toNat.blt m.2.length && true)) <|
 gd ((atL Rm.cs m.2 r1.toNat 4).isArr && (atL Rm.cs m.2 r1.toNat 4).wd.beq 2) <|
 bif decide (x40 < (↑(atL Rm.cs m.2 r1.toNat 4).ln : Int)) then
  gd (decide (0 ≤ r1) && (r1.toNat.blt m.2.length && true)) <|
  gd ((atL Rm.cs m.2 r1.toNat 4).isArr && (atL Rm.cs m.2 r1.toNat 4).wd.beq 2) <|
  gd (decide (0 ≤ x40) && (x40.toNat.blt (atL Rm.cs m.2 r1.toNat 4).ln && true)) <|
  gd (T.isI IntKind.i64 ((atL Rm.cs m.2 r1.toNat 4).fn x40.toNat 0) &&
  T.isI IntKind.i64 ((atL Rm.cs m.2 r1.toNat 4).fn x40.toNat 1)) <|
  gd (nx8.ble nx8 && true) <|
  entK (ok_told k) ea_told (f_told k) [(0, true,
    [C.tr false (T.int IntKind.i64 m.c.1), C.tr false (T.int IntKind.i64 m.c.2),
      C.tr false (T.int IntKind.i64 m.c.3), C.tr false (T.int IntKind.i64 m.c.4),
      C.tr false (T.int IntKind.i64 m.c.5), C.tr false (T.int IntKind.i64 m.c.6), C.tr false (eL 11 Rm.cs m.2),
      C.tr false (eL 1 rowI m.3)]),
  (0, true,
    [C.tr false (T.int IntKind.i64 ((atL Rm.cs m.2 r1.toNat 4).fn x40.toNat 0).toI),
      C.tr false (T.int IntKind.i64 ((atL Rm.cs m.2 r1.toNat 4).fn x40.toNat 1).toI)]),
  (3, false, [C.tr true (T.arr 2 nx8 fx8)])] fun (r4 : List Int × List Hd) =>
  gd (r4.1.length.ble r4.1.length && true) <|
  gd (r4.2.length.ble r4.2.length && true) <|
  gd (nx36.ble nx36 && true) <|
  gd ((0 + r4.1.length).ble r4.1.length) <|
  gd (((nx36 + r4.1.length) * 8).ble 70368744177664 && (nx36 + r4.1.length).ble 70368744177664) <|
  gd ((nx36 + r4.1.length).ble (nx36 + r4.1.length) && true) <|
  gd (r4.2.length.ble r4.2.length && true) <|
  K .normal (st_told_1 k m h a r1 (r4.2.length) ((eL 2 Hd.cs r4.2).fn) (nx36 + r4.1.length) (appF nx36 fx36 (plainF (cutT 0 r4.1.length (atL rowI r4.1)))) (IntKind.i64.wrap (x40 + 1)))
 else
 K (.exit 0) (ex_told_1_1 k m h a r1 nx8 fx8 nx36 fx36 x40)) := by kernel_rfl
theorem post_told_1_1 (k : Nat) (m : Ml) (h : Hd) (a : List Hd) (r1 : Int) (nx8 : Nat) (fx8 : Nat → Nat → T) (nx36 : Nat) (fx36 : Nat → Nat → T) (x40 : Int) (n : Nat) : contAt prog (tabS [(i_sRoomOf, e_sRoomOf), (i_sHasH, e_sHasH), (i_sTagsDown, e_sTagsDown), (i_told, e_told k)]) kp_told F_told ts_told [1, 1, 1, 1, 1, 0, 1, 0] [] n (.exit 0) (ex_told_1_1 k m h a r1 nx8 fx8 nx36 fx36 x40) = (
 gd (nx36.ble nx36 && true) <|
 gd (nx8.ble nx8 && true) <|
 gd (nx36.ble nx36 && true) <|
 gd (nx8.ble nx8 && true) <|
 some ([(false, [.tr true (.arr (1) (nx36) (fx36))]), (false, [.tr true (.arr (2) (nx8) (fx8))])], [(false, []), (false, []), (false, [])])) := by kernel_rfl
theorem pre_told (k : Nat) (m : Ml) (h : Hd) (a : List Hd) (n : Nat) : body prog (tabS [(i_sRoomOf, e_sRoomOf), (i_sHasH, e_sHasH), (i_sTagsDown, e_sTagsDown), (i_told, e_told k)]) kp_told n F_told [aR m.cs, aR h.cs, vT (eL 2 Hd.cs a)] = (
 entK ok_sRoomOf ea_sRoomOf (f_sRoomOf) [(0, true,
    [C.tr false (T.int IntKind.i64 m.c.1), C.tr false (T.int IntKind.i64 m.c.2),
      C.tr false (T.int IntKind.i64 m.c.3), C.tr false (T.int IntKind.i64 m.c.4),
      C.tr false (T.int IntKind.i64 m.c.5), C.tr false (T.int IntKind.i64 m.c.6), C.tr false (eL 11 Rm.cs m.2),
      C.tr false (eL 1 rowI m.3)]),
  (0, true, [C.tr false (T.int IntKind.i64 h.1), C.tr false (T.int IntKind.i64 h.2)])] fun (r1 : Int) =>
 bif decide (r1 < 0) then
  gd (a.length.ble a.length && true) <|
  gd (a.length.ble a.length && true) <|
  some ([(false, [.tr true (.arr (1) (0) (rowsT []))]), (false, [.tr true (.arr (2) (a.length) ((eL 2 Hd.cs a).fn))])], [(false, []), (false, []), (false, [])])
 else
 gd ((0 + a.length).ble a.length) <|
 entK ok_sHasH ea_sHasH (f_sHasH) [(0, false, [C.tr false (T.arr 2 a.length (cutT 0 a.length (eL 2 Hd.cs a).fn))]),
  (0, true, [C.tr false (T.int IntKind.i64 h.1), C.tr false (T.int IntKind.i64 h.2)])] fun (r2 : Bool) =>
 bif r2 then
  gd (a.length.ble a.length && true) <|
  gd (a.length.ble a.length && true) <|
  some ([(false, [.tr true (.arr (1) (0) (rowsT []))]), (false, [.tr true (.arr (2) (a.length) ((eL 2 Hd.cs a).fn))])], [(false, []), (false, []), (false, [])])
 else
 gd ((0 + a.length).ble a.length) <|
 gd (((0 + a.length) * 16).ble 70368744177664 && (0 + a.length).ble 70368744177664) <|
 gd ((0 + a.length).ble (0 + a.length) && true) <|
 gd (((0 + a.length + 1) * 16).ble 70368744177664 && (0 + a.length + 1).ble 70368744177664) <|
 gd ((0 + a.length + 1).ble (0 + a.length + 1) && true) <|
 gd (decide (0 ≤ r1) && (r1.toNat.blt m.2.length && true)) <|
 gd ((atL Rm.cs m.2 r1.toNat 10).isArr && (atL Rm.cs m.2 r1.toNat 10).wd.beq 1) <|
 entK ok_sTagsDown ea_sTagsDown (f_sTagsDown) [(0, false, [C.tr false (T.arr 1 (atL Rm.cs m.2 r1.toNat 10).ln (atL Rm.cs m.2 r1.toNat 10).fn)])] fun (r3 : List Int) =>
 gd (r3.length.ble r3.length && true) <|
 loopAt prog (tabS [(i_sRoomOf, e_sRoomOf), (i_sHasH, e_sHasH), (i_sTagsDown, e_sTagsDown), (i_told, e_told k)]) kp_told F_told [1, 1, 1, 1, 1, 0, 1, 0] n n (st_told_1 k m h a r1 (0 + a.length + 1) (appF (0 + a.length) (appF 0 (rowsT []) (plainF (cutT 0 a.length (eL 2 Hd.cs a).fn)))
  (plainF (cutT 0 1 (rowsT [[T.int IntKind.i64 h.1, T.int IntKind.i64 h.2]])))) (r3.length) (atL rowI r3) (0)) (contAt prog (tabS [(i_sRoomOf, e_sRoomOf), (i_sHasH, e_sHasH), (i_sTagsDown, e_sTagsDown), (i_told, e_told k)]) kp_told F_told ts_told [1, 1, 1, 1, 1, 0, 1, 0] [] n)) := by kernel_rfl
end Go.Mach.F
namespace Go.Mach.F
open Go Go.Mach Go.Proofs.Try
--=set_option maxRecDepth 100000
/-- What EagerGive's test captures. -/
structure Dc where
  met : List Hd
  whole : Bool
  h : Hd
  deriving Inhabited
def aDc (i : Nat) (x : Dc) : Arg := (0, false, [.fn i [Pt.pim 1 (pimF [eL 2 Hd.cs x.met]), Pt.pim 1 (pimF [.bool x.whole]), Pt.pim 2 (pimF x.h.cs)]])
theorem aDc_inj {i : Nat} {x y : Dc} (h : aDc i x = aDc i y) : x = y := by
  obtain ⟨m1, w1, h1⟩ := x
  obtain ⟨m2, w2, h2⟩ := y
  simp only [aDc, Prod.mk.injEq, true_and, List.cons.injEq, and_true, C.fn.injEq, Pt.pim.injEq] at h
  obtain ⟨e0, e1, e2⟩ := h
  have f0 := congrFun e0 0
  have f1 := congrFun e1 0
  have f2 := congrFun e2 0
  have f3 := congrFun e2 1
  obtain rfl := eL_inj Hd.cs_inj f0
  cases f1
  rcases h1 with ⟨_, _⟩
  rcases h2 with ⟨_, _⟩
  cases f2
  cases f3
  rfl
/-- What goes. -/
def gvK (c : Dc) (r : Rm) : Bool := hasH c.met r.h && (c.whole || !decide (r.h = c.h))
def ixP {α : Type} (p : α → Bool) (l : List α) : Int := match (List.range l.length).find? (fun i => (l[i]?.map p).getD false) with | some i => (i : Int) | none => -1
def i_Give1 : Nat := 62
noncomputable abbrev F_Give1 : Func := f62
def kp_Give1 : List (Nat × List Nat) := [(0, [4, 8, 12, 16, 17, 44, 48, 52, 56, 60, 64, 68]), (1, [20])]
noncomputable def e_Give1 : Ent := inl [0, 0, 0, 0] prog (tabS [(i_ConH, e_ConH)]) kp_Give1 0 F_Give1
theorem s_Give1 : EntOk prog i_Give1 e_Give1 := inl_ok (tabS_cons s_ConH tabS_nil) mixed (c := bodyOf F_Give1) func62 (by kernel_rfl) (name_ok (by kernel_rfl))
def ok_ixR (x : List Rm × Dc) : Prop := x.1.length ≤ LM ∧ x.2.met.length ≤ LM
def ea_ixR (x : List Rm × Dc) : List Arg := [aT (eL 11 Rm.cs x.1), aDc i_Give1 x.2]
def f_ixR (x : List Rm × Dc) : Int := ixP (gvK x.2) x.1
noncomputable def e_ixR : Ent := ent [] ok_ixR ea_ixR (erI 2) f_ixR
theorem ea_ixR_inj (x y : List Rm × Dc) (h : ea_ixR x = ea_ixR y) : x = y := by
  obtain ⟨l1, c1⟩ := x
  obtain ⟨l2, c2⟩ := y
  simp only [ea_ixR, List.cons.injEq, and_true, true_and] at h
  obtain ⟨e0, e1⟩ := h
  obtain rfl := eL_inj Rm.cs_inj (aT_inj e0)
  obtain rfl := aDc_inj e1
  rfl
theorem dm_ixR {l : List Rm} {c : Dc} (h : ok_ixR (l, c)) : dom ok_ixR ea_ixR [(0, false, [C.tr false (T.arr 11 l.length (atL Rm.cs l))]), (0, false, [C.fn 62 [Pt.pim 1 (pimF [T.arr 2 c.met.length (atL Hd.cs c.met)]), Pt.pim 1 (pimF [T.bool c.whole]), Pt.pim 2 (pimF [T.int IntKind.i64 c.h.slot, T.int IntKind.i64 c.h.gen])]])] = true := dom_ea (ea := ea_ixR) (x := (l, c)) h
theorem iv_ixR {l : List Rm} {c : Dc} (h : ok_ixR (l, c)) : inv ok_ixR ea_ixR [(0, false, [C.tr false (T.arr 11 l.length (atL Rm.cs l))]), (0, false, [C.fn 62 [Pt.pim 1 (pimF [T.arr 2 c.met.length (atL Hd.cs c.met)]), Pt.pim 1 (pimF [T.bool c.whole]), Pt.pim 2 (pimF [T.int IntKind.i64 c.h.slot, T.int IntKind.i64 c.h.gen])]])] = (l, c) := inv_ea ea_ixR_inj (x := (l, c)) h
theorem d_ixR (l : List Rm) (c : Dc) : f_ixR (l, c) = ixP (gvK c) l := rfl
def i_ixR : Nat := 117
noncomputable abbrev F_ixR : Func := f117
def kp_ixR : List (Nat × List Nat) := [(0, [0, 4]), (1, [0, 4, 28, 32]), (2, [0, 4, 28, 32, 36]), (3, [0, 4, 20, 28, 32]), (4, [0, 4, 20, 28, 32, 64]), (5, [16]), (6, [0, 4, 28, 32]), (7, [16])]
def ts_ixR : List Nat := [0, 0]
def st_ixR_1 (l : List Rm) (c : Dc) (x32 : Int) : St := [(0, ⟨z0, [(false, [.tr false (eL 11 Rm.cs l)])]⟩), (4, ⟨z0, [(false, [(C.fn 62
  [Pt.pim 1 (pimF [eL 2 Hd.cs c.1]), Pt.pim 1 (pimF [T.bool c.2]),
    Pt.pim 2 (pimF [T.int IntKind.i64 c.h.1, T.int IntKind.i64 c.h.2])])])]⟩), (28, ⟨z0, [(false, [.tr true (T.int IntKind.i64 (↑l.length : Int))])]⟩), (32, ⟨z0, [(false, [.tr true (T.int IntKind.i64 x32)])]⟩)]
def ex_ixR_1_1 (l : List Rm) (c : Dc) (x32 : Int) : St := [(16, ⟨z0, [(false, [.tr true (T.int IntKind.i64 x32)])]⟩)]
def ex_ixR_1_2 (l : List Rm) (c : Dc) (x32 : Int) : St := [(0, ⟨z0, [(false, [.tr false (eL 11 Rm.cs l)])]⟩), (4, ⟨z0, [(false, [(C.fn 62
  [Pt.pim 1 (pimF [eL 2 Hd.cs c.1]), Pt.pim 1 (pimF [T.bool c.2]),
    Pt.pim 2 (pimF [T.int IntKind.i64 c.h.1, T.int IntKind.i64 c.h.2])])])]⟩), (28, ⟨z0, [(false, [.tr true (T.int IntKind.i64 (↑l.length : Int))])]⟩), (32, ⟨z0, [(false, [.tr true (T.int IntKind.i64 x32)])]⟩), (36, ⟨z0, []⟩)]
theorem round_ixR_1 (l : List Rm) (c : Dc) (x32 : Int) (n : Nat) (K : Ex → St → Res) : roundAt prog (tabS [(i_Give1, e_Give1)]) kp_ixR F_ixR [1, 0, 1, 0] n (st_ixR_1 l c x32) K = (
 bif decide (x32 < (↑l.length : Int)) then
  gd (decide (0 ≤ x32) && (x32.toNat.blt l.length && true)) <|
  gd (T.isI IntKind.i64 (atL Rm.cs l x32.toNat 0) && T.isI IntKind.i64 (atL Rm.cs l x32.toNat 1) &&
                  T.isI IntKind.i64 (atL Rm.cs l x32.toNat 2) &&
                T.isI IntKind.i64 (atL Rm.cs l x32.toNat 3) &&
              ((atL Rm.cs l x32.toNat 4).isArr && (atL Rm.cs l x32.toNat 4).wd.beq 2) &&
            T.isI IntKind.i64 (atL Rm.cs l x32.toNat 5) &&
          T.isI IntKind.i64 (atL Rm.cs l x32.toNat 6) &&
        (atL Rm.cs l x32.toNat 7).isB &&
      T.isI IntKind.i64 (atL Rm.cs l x32.toNat 8) &&
    ((atL Rm.cs l x32.toNat 9).isArr && (atL Rm.cs l x32.toNat 9).wd.beq 1) &&
  ((atL Rm.cs l x32.toNat 10).isArr && (atL Rm.cs l x32.toNat 10).wd.beq 1)) <|
  entK ok_idHd ea_idHd (f_idHd) [(0, false, [C.tr false (T.arr 2 c.1.length (atL Hd.cs c.1))]),
  (0, true,
    [C.tr false (T.int IntKind.i64 (atL Rm.cs l x32.toNat 0).toI),
      C.tr false (T.int IntKind.i64 (atL Rm.cs l x32.toNat 1).toI)])] fun (r1 : Int) =>
  bif decide (0 ≤ r1) then
   bif (T.bool c.2).toB then
    K .ret (ex_ixR_1_1 l c x32)
   else
   bif !bif (atL Rm.cs l x32.toNat 0).toI == (T.int IntKind.i64 c.h.1).toI then
    bif (atL Rm.cs l x32.toNat 1).toI == (T.int IntKind.i64 c.h.2).toI then true else false
  else false then
    K .ret (ex_ixR_1_1 l c x32)
   else
   K .normal (st_ixR_1 l c (IntKind.i64.wrap (x32 + 1)))
  else
  K .normal (st_ixR_1 l c (IntKind.i64.wrap (x32 + 1)))
 else
 K (.exit 0) (ex_ixR_1_2 l c x32)) := by kernel_rfl
theorem post_ixR_1_1 (l : List Rm) (c : Dc) (x32 : Int) (n : Nat) : contAt prog (tabS [(i_Give1, e_Give1)]) kp_ixR F_ixR ts_ixR [1, 0, 1, 0] [] n .ret (ex_ixR_1_1 l c x32) = (
 some ([(false, [.tr true (T.int IntKind.i64 x32)])], [(false, []), (false, [])])) := by kernel_rfl
theorem post_ixR_1_2 (l : List Rm) (c : Dc) (x32 : Int) (n : Nat) : contAt prog (tabS [(i_Give1, e_Give1)]) kp_ixR F_ixR ts_ixR [1, 0, 1, 0] [] n (.exit 0) (ex_ixR_1_2 l c x32) = (
 some ([(false, [.tr true (T.int IntKind.i64 (-1))])], [(false, []), (false, [])])) := by kernel_rfl
theorem pre_ixR (l : List Rm) (c : Dc) (n : Nat) : body prog (tabS [(i_Give1, e_Give1)]) kp_ixR n F_ixR [aT (eL 11 Rm.cs l), aDc i_Give1 c] = (
 loopAt prog (tabS [(i_Give1, e_Give1)]) kp_ixR F_ixR [1, 0, 1, 0] n n (st_ixR_1 l c (0)) (contAt prog (tabS [(i_Give1, e_Give1)]) kp_ixR F_ixR ts_ixR [1, 0, 1, 0] [] n)) := by kernel_rfl
def ok_delR (x : List Rm × Dc) : Prop := x.1.length ≤ LM ∧ x.2.met.length ≤ LM
def ea_delR (x : List Rm × Dc) : List Arg := [vT (eL 11 Rm.cs x.1), aDc i_Give1 x.2]
def f_delR (x : List Rm × Dc) : List Rm := x.1.filter (fun y => !gvK x.2 y)
noncomputable def e_delR : Ent := ent [3] ok_delR ea_delR (fun l => ([oT (eL 11 Rm.cs l)], [nul, nul])) f_delR
theorem ea_delR_inj (x y : List Rm × Dc) (h : ea_delR x = ea_delR y) : x = y := by
  obtain ⟨l1, c1⟩ := x
  obtain ⟨l2, c2⟩ := y
  simp only [ea_delR, List.cons.injEq, and_true, true_and] at h
  obtain ⟨e0, e1⟩ := h
  obtain rfl := eL_inj Rm.cs_inj (vT_inj e0)
  obtain rfl := aDc_inj e1
  rfl
theorem dm_delR {l : List Rm} {c : Dc} (h : ok_delR (l, c)) : dom ok_delR ea_delR [(3, false, [C.tr true (T.arr 11 l.length (atL Rm.cs l))]), (0, false, [C.fn 62 [Pt.pim 1 (pimF [T.arr 2 c.met.length (atL Hd.cs c.met)]), Pt.pim 1 (pimF [T.bool c.whole]), Pt.pim 2 (pimF [T.int IntKind.i64 c.h.slot, T.int IntKind.i64 c.h.gen])]])] = true := dom_ea (ea := ea_delR) (x := (l, c)) h
theorem iv_delR {l : List Rm} {c : Dc} (h : ok_delR (l, c)) : inv ok_delR ea_delR [(3, false, [C.tr true (T.arr 11 l.length (atL Rm.cs l))]), (0, false, [C.fn 62 [Pt.pim 1 (pimF [T.arr 2 c.met.length (atL Hd.cs c.met)]), Pt.pim 1 (pimF [T.bool c.whole]), Pt.pim 2 (pimF [T.int IntKind.i64 c.h.slot, T.int IntKind.i64 c.h.gen])]])] = (l, c) := inv_ea ea_delR_inj (x := (l, c)) h
theorem d_delR (l : List Rm) (c : Dc) : f_delR (l, c) = l.filter (fun y => !gvK c y) := rfl
def i_delR : Nat := 61
noncomputable abbrev F_delR : Func := f61
def kp_delR : List (Nat × List Nat) := [(0, [0, 4, 2]), (1, [0, 4, 20, 2]), (2, [0, 4, 20, 48, 2]), (3, [16, 2]), (4, [0, 4, 20, 24, 2]), (5, [0, 4, 20, 24, 76, 2]), (6, [0, 4, 20, 24, 2]), (7, [0, 4, 20, 24, 28, 29, 88, 92, 96, 100, 2]), (8, [0, 4, 20, 24, 28, 29, 88, 92, 96, 100, 116, 2]), (9, [0, 4, 20, 24, 2]), (10, [0, 4, 20, 24, 2]), (11, [0, 20, 2]), (12, [16, 2])]
def ts_delR : List Nat := [3, 0]
def st_delR_1 (l : List Rm) (c : Dc) (nx0 : Nat) (fx0 : Nat → Nat → T) (x20 : Int) (x24 : Int) : St := [(0, ⟨z0, [(false, [.tr true (.arr (11) (nx0) (fx0))])]⟩), (4, ⟨z0, [(false, [(C.fn 62
  [Pt.pim 1 (pimF [eL 2 Hd.cs c.1]), Pt.pim 1 (pimF [T.bool c.2]),
    Pt.pim 2 (pimF [T.int IntKind.i64 c.h.1, T.int IntKind.i64 c.h.2])])])]⟩), (20, ⟨z0, [(false, [.tr true (T.int IntKind.i64 x20)])]⟩), (24, ⟨z0, [(false, [.tr true (T.int IntKind.i64 x24)])]⟩)]
def ex_delR_1_1 (l : List Rm) (c : Dc) (nx0 : Nat) (fx0 : Nat → Nat → T) (x20 : Int) (x24 : Int) : St := [(0, ⟨z0, [(false, [.tr true (.arr (11) (nx0) (fx0))])]⟩), (4, ⟨z0, [(false, [(C.fn 62
  [Pt.pim 1 (pimF [eL 2 Hd.cs c.1]), Pt.pim 1 (pimF [T.bool c.2]),
    Pt.pim 2 (pimF [T.int IntKind.i64 c.h.1, T.int IntKind.i64 c.h.2])])])]⟩), (20, ⟨z0, [(false, [.tr true (T.int IntKind.i64 x20)])]⟩), (24, ⟨z0, [(false, [.tr true (T.int IntKind.i64 x24)])]⟩), (76, ⟨z0, []⟩)]
theorem round_delR_1 (l : List Rm) (c : Dc) (nx0 : Nat) (fx0 : Nat → Nat → T) (x20 : Int) (x24 : Int) (n : Nat) (K : Ex → St → Res) : roundAt prog (tabS [(i_ixR, e_ixR), (i_Give1, e_Give1)]) kp_delR F_delR [1, 1, 1, 0, 1, 0] n (st_delR_1 l c nx0 fx0 x20 x24) K = (
 bif decide (x24 < (↑nx0 : Int)) then
  gd (decide (0 ≤ x24) && (x24.toNat.blt nx0 && true)) <|
  gd ((0 + x24.toNat).blt nx0 && true &&
  (T.isI IntKind.i64 (fx0 (0 + x24.toNat) 0) && T.isI IntKind.i64 (fx0 (0 + x24.toNat) 1) &&
                    T.isI IntKind.i64 (fx0 (0 + x24.toNat) 2) &&
                  T.isI IntKind.i64 (fx0 (0 + x24.toNat) 3) &&
                ((fx0 (0 + x24.toNat) 4).isArr && (fx0 (0 + x24.toNat) 4).wd.beq 2) &&
              T.isI IntKind.i64 (fx0 (0 + x24.toNat) 5) &&
            T.isI IntKind.i64 (fx0 (0 + x24.toNat) 6) &&
          (fx0 (0 + x24.toNat) 7).isB &&
        T.isI IntKind.i64 (fx0 (0 + x24.toNat) 8) &&
      ((fx0 (0 + x24.toNat) 9).isArr && (fx0 (0 + x24.toNat) 9).wd.beq 1) &&
    ((fx0 (0 + x24.toNat) 10).isArr && (fx0 (0 + x24.toNat) 10).wd.beq 1))) <|
  gd ((0 + x24.toNat).blt nx0 && true && true && ((T.arr 11 nx0 fx0).get [0 + x24.toNat, 4]).isArr) <|
  gd ((fx0 (0 + x24.toNat) 4).ln.ble ((T.arr 11 nx0 fx0).get [0 + x24.toNat, 4]).ln &&
  Nat.beq 2 ((T.arr 11 nx0 fx0).get [0 + x24.toNat, 4]).wd) <|
  gd ((0 + x24.toNat).blt nx0 && true && true &&
  ((T.arr 11 nx0 (setF (0 + x24.toNat) 4 T.hole fx0)).get [0 + x24.toNat, 9]).isArr) <|
  gd ((fx0 (0 + x24.toNat) 9).ln.ble ((T.arr 11 nx0 (setF (0 + x24.toNat) 4 T.hole fx0)).get [0 + x24.toNat, 9]).ln &&
  Nat.beq 1 ((T.arr 11 nx0 (setF (0 + x24.toNat) 4 T.hole fx0)).get [0 + x24.toNat, 9]).wd) <|
  gd ((0 + x24.toNat).blt nx0 && true && true &&
  ((T.arr 11 nx0 (setF (0 + x24.toNat) 9 T.hole (setF (0 + x24.toNat) 4 T.hole fx0))).get [0 + x24.toNat, 10]).isArr) <|
  gd ((fx0 (0 + x24.toNat) 10).ln.ble
    ((T.arr 11 nx0 (setF (0 + x24.toNat) 9 T.hole (setF (0 + x24.toNat) 4 T.hole fx0))).get [0 + x24.toNat, 10]).ln &&
  Nat.beq 1
    ((T.arr 11 nx0 (setF (0 + x24.toNat) 9 T.hole (setF (0 + x24.toNat) 4 T.hole fx0))).get [0 + x24.toNat, 10]).wd) <|
  gd ((0 + (fx0 (0 + x24.toNat) 4).ln).ble (fx0 (0 + x24.toNat) 4).ln) <|
  gd ((0 + (fx0 (0 + x24.toNat) 9).ln).ble (fx0 (0 + x24.toNat) 9).ln) <|
  gd ((0 + (fx0 (0 + x24.toNat) 10).ln).ble (fx0 (0 + x24.toNat) 10).ln) <|
  entK ok_idHd ea_idHd (f_idHd) [(0, false, [C.tr false (T.arr 2 c.1.length (atL Hd.cs c.1))]),
  (0, true,
    [C.tr false (T.int IntKind.i64 (fx0 (0 + x24.toNat) 0).toI),
      C.tr false (T.int IntKind.i64 (fx0 (0 + x24.toNat) 1).toI)])] fun (r2 : Int) =>
  bif decide (0 ≤ r2) then
   bif (T.bool c.2).toB then
    K .normal (st_delR_1 l c (nx0) (setF (0 + x24.toNat) 10 T.hole (setF (0 + x24.toNat) 9 T.hole (setF (0 + x24.toNat) 4 T.hole fx0))) (x20) (IntKind.i64.wrap (x24 + 1)))
   else
   bif !!bif (fx0 (0 + x24.toNat) 0).toI == (T.int IntKind.i64 c.h.1).toI then
      bif (fx0 (0 + x24.toNat) 1).toI == (T.int IntKind.i64 c.h.2).toI then true else false
    else false then
    gd (decide (0 ≤ x20) && (x20.toNat.blt nx0 && true)) <|
    gd ((fx0 (0 + x24.toNat) 4).ln.ble (fx0 (0 + x24.toNat) 4).ln && true) <|
    gd ((fx0 (0 + x24.toNat) 9).ln.ble (fx0 (0 + x24.toNat) 9).ln && true) <|
    gd ((fx0 (0 + x24.toNat) 10).ln.ble (fx0 (0 + x24.toNat) 10).ln && true) <|
    gd ((0 + x20.toNat).blt nx0 && true && true) <|
    gd ((0 + x20.toNat).blt nx0 && true && true) <|
    gd ((0 + x20.toNat).blt nx0 && true && true) <|
    gd ((0 + x20.toNat).blt nx0 && true && true) <|
    gd ((0 + x20.toNat).blt nx0 && true && true) <|
    gd ((0 + x20.toNat).blt nx0 && true && true) <|
    gd ((0 + x20.toNat).blt nx0 && true && true) <|
    gd ((0 + x20.toNat).blt nx0 && true && true) <|
    gd ((0 + x20.toNat).blt nx0 && true && true) <|
    gd ((0 + x20.toNat).blt nx0 && true && true) <|
    gd ((0 + x20.toNat).blt nx0 && true && true) <|
    K .normal (st_delR_1 l c (nx0) (setF (0 + x20.toNat) (4 + 1 + 1 + 1 + 1 + 1 + 1)
  (T.arr 1 (fx0 (0 + x24.toNat) 10).ln
    ((T.arr 11 nx0 (setF (0 + x24.toNat) 9 T.hole (setF (0 + x24.toNat) 4 T.hole fx0))).get [0 + x24.toNat, 10]).fn)
  (setF (0 + x20.toNat) (4 + 1 + 1 + 1 + 1 + 1)
    (T.arr 1 (fx0 (0 + x24.toNat) 9).ln ((T.arr 11 nx0 (setF (0 + x24.toNat) 4 T.hole fx0)).get [0 + x24.toNat, 9]).fn)
    (setF (0 + x20.toNat) (4 + 1 + 1 + 1 + 1) (T.int IntKind.i64 (fx0 (0 + x24.toNat) 8).toI)
      (setF (0 + x20.toNat) (4 + 1 + 1 + 1) (T.bool (fx0 (0 + x24.toNat) 7).toB)
        (setF (0 + x20.toNat) (4 + 1 + 1) (T.int IntKind.i64 (fx0 (0 + x24.toNat) 6).toI)
          (setF (0 + x20.toNat) (4 + 1) (T.int IntKind.i64 (fx0 (0 + x24.toNat) 5).toI)
            (setF (0 + x20.toNat) 4 (T.arr 2 (fx0 (0 + x24.toNat) 4).ln ((T.arr 11 nx0 fx0).get [0 + x24.toNat, 4]).fn)
              (setF (0 + x20.toNat) 3 (T.int IntKind.i64 (fx0 (0 + x24.toNat) 3).toI)
                (setF (0 + x20.toNat) 2 (T.int IntKind.i64 (fx0 (0 + x24.toNat) 2).toI)
                  (setF (0 + x20.toNat) 1 (T.int IntKind.i64 (fx0 (0 + x24.toNat) 1).toI)
                    (setF (0 + x20.toNat) 0 (T.int IntKind.i64 (fx0 (0 + x24.toNat) 0).toI)
                      (setF (0 + x24.toNat) 10 T.hole
                        (setF (0 + x24.toNat) 9 T.hole (setF (0 + x24.toNat) 4 T.hole fx0)))))))))))))) (IntKind.i64.wrap (x20 + 1)) (IntKind.i64.wrap (x24 + 1)))
   else
   K .normal (st_delR_1 l c (nx0) (setF (0 + x24.toNat) 10 T.hole (setF (0 + x24.toNat) 9 T.hole (setF (0 + x24.toNat) 4 T.hole fx0))) (x20) (IntKind.i64.wrap (x24 + 1)))
  else
  gd (decide (0 ≤ x20) && (x20.toNat.blt nx0 && true)) <|
  gd ((fx0 (0 + x24.toNat) 4).ln.ble (fx0 (0 + x24.toNat) 4).ln && true) <|
  gd ((fx0 (0 + x24.toNat) 9).ln.ble (fx0 (0 + x24.toNat) 9).ln && true) <|
  gd ((fx0 (0 + x24.toNat) 10).ln.ble (fx0 (0 + x24.toNat) 10).ln && true) <|
  gd ((0 + x20.toNat).blt nx0 && true && true) <|
  gd ((0 + x20.toNat).blt nx0 && true && true) <|
  gd ((0 + x20.toNat).blt nx0 && true && true) <|
  gd ((0 + x20.toNat).blt nx0 && true && true) <|
  gd ((0 + x20.toNat).blt nx0 && true && true) <|
  gd ((0 + x20.toNat).blt nx0 && true && true) <|
  gd ((0 + x20.toNat).blt nx0 && true && true) <|
  gd ((0 + x20.toNat).blt nx0 && true && true) <|
  gd ((0 + x20.toNat).blt nx0 && true && true) <|
  gd ((0 + x20.toNat).blt nx0 && true && true) <|
  gd ((0 + x20.toNat).blt nx0 && true && true) <|
  K .normal (st_delR_1 l c (nx0) (setF (0 + x20.toNat) (4 + 1 + 1 + 1 + 1 + 1 + 1)
  (T.arr 1 (fx0 (0 + x24.toNat) 10).ln
    ((T.arr 11 nx0 (setF (0 + x24.toNat) 9 T.hole (setF (0 + x24.toNat) 4 T.hole fx0))).get [0 + x24.toNat, 10]).fn)
  (setF (0 + x20.toNat) (4 + 1 + 1 + 1 + 1 + 1)
    (T.arr 1 (fx0 (0 + x24.toNat) 9).ln ((T.arr 11 nx0 (setF (0 + x24.toNat) 4 T.hole fx0)).get [0 + x24.toNat, 9]).fn)
    (setF (0 + x20.toNat) (4 + 1 + 1 + 1 + 1) (T.int IntKind.i64 (fx0 (0 + x24.toNat) 8).toI)
      (setF (0 + x20.toNat) (4 + 1 + 1 + 1) (T.bool (fx0 (0 + x24.toNat) 7).toB)
        (setF (0 + x20.toNat) (4 + 1 + 1) (T.int IntKind.i64 (fx0 (0 + x24.toNat) 6).toI)
          (setF (0 + x20.toNat) (4 + 1) (T.int IntKind.i64 (fx0 (0 + x24.toNat) 5).toI)
            (setF (0 + x20.toNat) 4 (T.arr 2 (fx0 (0 + x24.toNat) 4).ln ((T.arr 11 nx0 fx0).get [0 + x24.toNat, 4]).fn)
              (setF (0 + x20.toNat) 3 (T.int IntKind.i64 (fx0 (0 + x24.toNat) 3).toI)
                (setF (0 + x20.toNat) 2 (T.int IntKind.i64 (fx0 (0 + x24.toNat) 2).toI)
                  (setF (0 + x20.toNat) 1 (T.int IntKind.i64 (fx0 (0 + x24.toNat) 1).toI)
                    (setF (0 + x20.toNat) 0 (T.int IntKind.i64 (fx0 (0 + x24.toNat) 0).toI)
                      (setF (0 + x24.toNat) 10 T.hole
                        (setF (0 + x24.toNat) 9 T.hole (setF (0 + x24.toNat) 4 T.hole fx0)))))))))))))) (IntKind.i64.wrap (x20 + 1)) (IntKind.i64.wrap (x24 + 1)))
 else
 K (.exit 0) (ex_delR_1_1 l c nx0 fx0 x20 x24)) := by kernel_rfl
theorem post_delR_1_1 (l : List Rm) (c : Dc) (nx0 : Nat) (fx0 : Nat → Nat → T) (x20 : Int) (x24 : Int) (n : Nat) : contAt prog (tabS [(i_ixR, e_ixR), (i_Give1, e_Give1)]) kp_delR F_delR ts_delR [1, 1, 1, 0, 1, 0] [] n (.exit 0) (ex_delR_1_1 l c nx0 fx0 x20 x24) = (
 gd (decide (0 ≤ x20) && (decide (x20 ≤ (↑nx0 : Int)) && decide ((↑nx0 : Int) ≤ (↑nx0 : Int)))) <|
 gd ((0 + x20.toNat + ((↑nx0 : Int).toNat - x20.toNat)).ble nx0) <|
 gd (decide (0 ≤ x20) && decide (x20 ≤ (↑nx0 : Int))) <|
 gd ((x20.toNat - 0).ble nx0 && true) <|
 gd ((x20.toNat - 0).ble (x20.toNat - 0) && true) <|
 some ([(false, [.tr true (.arr (11) (x20.toNat - 0) (fillT 11 (0 + x20.toNat) ((↑nx0 : Int).toNat - x20.toNat)
  (fun x k => zeroT prog 54 0 k) fx0))])], [(false, []), (false, [])])) := by kernel_rfl
theorem pre_delR (l : List Rm) (c : Dc) (n : Nat) : body prog (tabS [(i_ixR, e_ixR), (i_Give1, e_Give1)]) kp_delR n F_delR [vT (eL 11 Rm.cs l), aDc i_Give1 c] = (
 gd ((0 + l.length).ble l.length) <|
 entK ok_ixR ea_ixR (f_ixR) [(0, false, [C.tr false (T.arr 11 l.length (cutT 0 l.length (eL 11 Rm.cs l).fn))]),
  (0, false,
    [C.fn 62
        [Pt.pim 1 (pimF [eL 2 Hd.cs c.1]), Pt.pim 1 (pimF [T.bool c.2]),
          Pt.pim 2 (pimF [T.int IntKind.i64 c.h.1, T.int IntKind.i64 c.h.2])]])] fun (r1 : Int) =>
 bif r1 == -1 then
  gd (l.length.ble l.length && true) <|
  gd (l.length.ble l.length && true) <|
  some ([(false, [.tr true (.arr (11) (l.length) ((eL 11 Rm.cs l).fn))])], [(false, []), (false, [])])
 else
 loopAt prog (tabS [(i_ixR, e_ixR), (i_Give1, e_Give1)]) kp_delR F_delR [1, 1, 1, 0, 1, 0] n n (st_delR_1 l c (T.ln (eL 11 Rm.cs l)) (T.fn (eL 11 Rm.cs l)) r1 (IntKind.i64.wrap (r1 + 1))) (contAt prog (tabS [(i_ixR, e_ixR), (i_Give1, e_Give1)]) kp_delR F_delR ts_delR [1, 1, 1, 0, 1, 0] [] n)) := by kernel_rfl
end Go.Mach.F
namespace Go.Mach.F
open Go Go.Mach Go.Proofs.Try
theorem rof_of (l : List Rm) (h : Hd) : (∃ i : Nat, rof l h = (i : Int) ∧ l[i]?.map Rm.h = some h ∧ i < l.length ∧ ∀ j, j < i → l[j]?.map Rm.h ≠ some h) ∨ (rof l h = -1 ∧ ∀ j : Nat, l[j]?.map Rm.h ≠ some h) := by
  unfold rof
  cases hf : (List.range l.length).find? (fun i => decide (l[i]?.map Rm.h = some h)) with
  | some i =>
    obtain ⟨h1, h2, h3⟩ := List.find?_range_eq_some.1 hf
    refine .inl ⟨i, rfl, of_decide_eq_true h1, List.mem_range.1 h2, fun j hj e => ?_⟩
    have := h3 j hj
    simp [e] at this
  | none =>
    refine .inr ⟨rfl, fun j e => ?_⟩
    by_cases hj : j < l.length
    · have := List.find?_eq_none.1 hf j (List.mem_range.2 hj)
      simp only [decide_eq_true_eq] at this
      exact this e
    · rw [List.getElem?_eq_none (by omega)] at e
      cases e
theorem rof_cons (r : Rm) (rs : List Rm) (h : Hd) : rof (r :: rs) h = if r.h = h then 0 else if rof rs h < 0 then -1 else rof rs h + 1 := by
  rcases rof_of (r :: rs) h with ⟨i, e, hi, hl, hn⟩ | ⟨e, hn⟩
  · rw [e]
    cases i with
    | zero =>
      simp at hi
      rw [if_pos hi]
      rfl
    | succ i =>
      have h0 := hn 0 (by omega)
      simp at h0
      rw [if_neg h0]
      rcases rof_of rs h with ⟨i', e', hi', hl', hn'⟩ | ⟨e', hn'⟩
      · rw [e', if_neg (by omega)]
        have : i' = i := by
          simp only [List.getElem?_cons_succ] at hi
          rcases Nat.lt_trichotomy i' i with h1 | h1 | h1
          · exact absurd (by simpa using hi') (hn (i' + 1) (by omega))
          · exact h1
          · exact absurd hi (hn' i h1)
        rw [this]
        rfl
      · simp only [List.getElem?_cons_succ] at hi
        exact absurd hi (hn' i)
  · rw [e]
    have h0 := hn 0
    simp at h0
    rw [if_neg h0]
    rcases rof_of rs h with ⟨i', e', hi', hl', hn'⟩ | ⟨e', hn'⟩
    · exact absurd (by simpa using hi') (hn (i' + 1))
    · rw [e']
      rfl
theorem tlK_cons (r : Rm) (rs : List Rm) (h : Hd) : tlK (r :: rs) h = if r.h = h then r.tags.length else tlK rs h := by
  unfold tlK
  rw [rof_cons]
  by_cases h1 : r.h = h
  · rw [if_pos h1, if_pos h1]
    rfl
  · rw [if_neg h1, if_neg h1]
    by_cases h2 : rof rs h < 0
    · rw [if_pos h2, decide_eq_true h2]
      rfl
    · rw [if_neg h2, decide_eq_false h2, decide_eq_false (by omega)]
      have : (rof rs h + 1).toNat = (rof rs h).toNat + 1 := by omega
      rw [this]
      rfl
theorem sumL_cons (f : Hd → Nat) (x : Hd) (l : List Hd) : sumL f (x :: l) = f x + sumL f l := rfl
theorem sumL_app (f : Hd → Nat) (l l' : List Hd) : sumL f (l ++ l') = sumL f l + sumL f l' := by
  induction l with
  | nil => simp [sumL]
  | cons x l ih => rw [List.cons_append, sumL_cons, sumL_cons, ih, Nat.add_assoc]
theorem sumL_off {r : Rm} {rs : List Rm} {l : List Hd} (h : r.h ∉ l) : sumL (tlK (r :: rs)) l = sumL (tlK rs) l := by
  induction l with
  | nil => rfl
  | cons x l ih =>
    rw [sumL_cons, sumL_cons, tlK_cons, if_neg (fun e => h (by rw [e]; exact List.mem_cons_self)), ih fun hm => h (List.mem_cons_of_mem _ hm)]
theorem sumL_on {r : Rm} {rs : List Rm} {l : List Hd} (h : l.Nodup) : sumL (tlK (r :: rs)) l ≤ r.tags.length + sumL (tlK rs) l := by
  induction l with
  | nil => exact Nat.zero_le _
  | cons x l ih =>
    rw [List.nodup_cons] at h
    rw [sumL_cons, sumL_cons, tlK_cons]
    by_cases e : r.h = x
    · rw [if_pos e, sumL_off (by rw [e]; exact h.1)]
      omega
    · rw [if_neg e]
      have := ih h.2
      omega
theorem sumL_le (rs : List Rm) {l : List Hd} (h : l.Nodup) : sumL (tlK rs) l ≤ cntL (fun r => r.tags.length) rs := by
  induction rs with
  | nil =>
    have : ∀ l : List Hd, sumL (tlK []) l = 0 := fun l => by
      induction l with
      | nil => rfl
      | cons x l ih => rw [sumL_cons, ih]; rfl
    rw [this]
    exact Nat.zero_le _
  | cons r rs ih =>
    have := sumL_on (r := r) (rs := rs) h
    unfold cntL
    omega
theorem nodup_len : ∀ {U l : List Hd}, l.Nodup → (∀ x ∈ l, x ∈ U) → l.length ≤ U.length
  | [], l, _, hs => by
    have : l = [] := List.eq_nil_iff_forall_not_mem.2 fun x hx => by simpa using hs x hx
    rw [this]
    exact Nat.le_refl _
  | u :: U, l, h, hs => by
    have h1 := nodup_len (U := U) (l := l.erase u) (h.erase u) fun x hx => by
      rw [h.mem_erase_iff] at hx
      exact (List.mem_cons.1 (hs x hx.2)).resolve_left hx.1
    rw [List.length_erase] at h1
    simp only [List.length_cons]
    split at h1 <;> omega
theorem MetOk.len {rs : List Rm} {h0 : Hd} {met : List Hd} (h : MetOk rs h0 met) : met.length ≤ (allK rs).length + 1 := by
  have := nodup_len (U := h0 :: allK rs) h.nd fun x hx => by
    rcases h.sub x hx with rfl | h1
    · exact List.mem_cons_self
    · exact List.mem_cons_of_mem _ h1
  simpa using this
theorem MetOk.add {rs : List Rm} {h0 h : Hd} {met : List Hd} (hm : MetOk rs h0 met) (hh : h = h0 ∨ h ∈ allK rs) (hn : h ∉ met) : MetOk rs h0 (met ++ [h]) where
  nd := by
    rw [List.nodup_append]
    refine ⟨hm.nd, by simp, fun a ha b hb => ?_⟩
    rw [List.mem_singleton] at hb
    subst hb
    intro e
    subst e
    exact hn ha
  sub := fun x hx => by
    rcases List.mem_append.1 hx with h1 | h1
    · exact hm.sub x h1
    · rw [List.mem_singleton.1 h1]
      exact hh
theorem kid_in {rs : List Rm} {r : Rm} {kid : Hd} (hr : r ∈ rs) (hk : kid ∈ r.kids) : kid ∈ allK rs := List.mem_flatMap.2 ⟨r, hr, hk⟩
theorem fold_inv {α β : Type} (P : β → Prop) (f : β → α → β) : ∀ (l : List α) (b : β), P b → (∀ b x, x ∈ l → P b → P (f b x)) → P (l.foldl f b)
  | [], _, h, _ => h
  | x :: l, b, h, hf => fold_inv P f l (f b x) (hf b x List.mem_cons_self h) fun b y hy => hf b y (List.mem_cons_of_mem _ hy)
/-- What is kept along a walk. -/
def GatP (rs : List Rm) (h0 : Hd) (n : Nat) (a : List Hd × List Int) : Prop := MetOk rs h0 a.1 ∧ a.2.length ≤ sumL (tlK rs) a.1 ∧ n ≤ a.1.length
theorem room_at {rs : List Rm} {h : Hd} (e : ¬ rof rs h < 0) : rs[(rof rs h).toNat]? = some (rs.getD (rof rs h).toNat zRm) ∧ rs.getD (rof rs h).toNat zRm ∈ rs ∧ tlK rs h = (rs.getD (rof rs h).toNat zRm).tags.length := by
  have h1 := getD_get (rof_lt e).2
  exact ⟨h1, List.mem_of_getElem? h1, by unfold tlK; rw [decide_eq_false e]; rfl⟩
theorem gat_start {rs : List Rm} {h0 h : Hd} {a : List Hd × List Int} {n : Nat} (hp : GatP rs h0 n a) (hh : h = h0 ∨ h ∈ allK rs) (hn : h ∉ a.1) (e : ¬ rof rs h < 0) : GatP rs h0 (n + 1) (a.1 ++ [h], a.2 ++ (rs.getD (rof rs h).toNat zRm).tags.reverse) := by
  refine ⟨hp.1.add hh hn, ?_, ?_⟩
  · simp only [List.length_append, List.length_reverse, sumL_app]
    have := hp.2.1
    have h3 := (room_at e).2.2
    have : sumL (tlK rs) [h] = tlK rs h := by rw [sumL_cons]; rfl
    omega
  · have := hp.2.2
    simp only [List.length_append, List.length_singleton]
    omega
theorem gatH_inv (rs : List Rm) (h0 : Hd) : ∀ (n : Nat) (h : Hd) (a : List Hd × List Int) (k : Nat), GatP rs h0 k a → (h = h0 ∨ h ∈ allK rs) → GatP rs h0 k (gatH n rs h a)
  | 0, _, _, _, hp, _ => hp
  | n + 1, h, a, k, hp, hh => by
    unfold gatH hasH
    by_cases h1 : h ∈ a.1
    · rw [decide_eq_true h1]
      exact hp
    · rw [decide_eq_false h1, cond_false]
      by_cases h2 : rof rs h < 0
      · rw [decide_eq_true h2, cond_true]
        refine ⟨hp.1.add hh h1, ?_, ?_⟩
        · simp only [sumL_app]
          have := hp.2.1
          omega
        · have := hp.2.2
          simp only [List.length_append, List.length_singleton]
          omega
      · rw [decide_eq_false h2, cond_false]
        have hs := gat_start hp hh h1 h2
        have := fold_inv (GatP rs h0 (k + 1)) (fun a kid => gatH n rs kid a) _ _ hs fun b x hx hb => gatH_inv rs h0 n x b (k + 1) hb (.inr (kid_in (room_at h2).2.1 hx))
        exact ⟨this.1, this.2.1, by have := this.2.2; omega⟩
theorem take_fold {α β : Type} (f : β → α → β) {l : List α} {i : Nat} {x : α} (h : l[i]? = some x) (b : β) : (l.take (i + 1)).foldl f b = f ((l.take i).foldl f b) x := by
  rw [List.take_add_one, h, List.foldl_append]
  rfl
/-- What is kept along the reference's walk. -/
def TolP (rs : List Rm) (h0 : Hd) (n c : Nat) (b : List Int × List Hd) : Prop := MetOk rs h0 b.2 ∧ b.1.length + c ≤ sumL (tlK rs) b.2 ∧ n ≤ b.2.length
theorem toldS_inv (rs : List Rm) (h0 : Hd) : ∀ (n : Nat) (h : Hd) (a : List Hd), MetOk rs h0 a → (h = h0 ∨ h ∈ allK rs) → TolP rs h0 a.length (sumL (tlK rs) a) (toldS n rs h a)
  | 0, _, a, hm, _ => ⟨hm, by simp [toldS], Nat.le_refl _⟩
  | n + 1, h, a, hm, hh => by
    unfold toldS hasH
    by_cases h2 : rof rs h < 0
    · rw [decide_eq_true h2, Bool.true_or, cond_true]
      exact ⟨hm, by simp, Nat.le_refl _⟩
    by_cases h1 : h ∈ a
    · rw [decide_eq_true h1, Bool.or_true, cond_true]
      exact ⟨hm, by simp, Nat.le_refl _⟩
    rw [decide_eq_false h2, decide_eq_false h1, Bool.or_self, cond_false]
    have hs : TolP rs h0 (a.length + 1) (sumL (tlK rs) a) ((rs.getD (rof rs h).toNat zRm).tags.reverse, a ++ [h]) := by
      refine ⟨hm.add hh h1, ?_, by simp⟩
      simp only [List.length_reverse, sumL_app]
      have h3 := (room_at h2).2.2
      have : sumL (tlK rs) [h] = tlK rs h := by rw [sumL_cons]; rfl
      omega
    have := fold_inv (TolP rs h0 (a.length + 1) (sumL (tlK rs) a)) (fun (b : List Int × List Hd) kid => (b.1 ++ (toldS n rs kid b.2).1, (toldS n rs kid b.2).2)) _ _ hs fun b x hx hb => by
      have ih := toldS_inv rs h0 n x b.2 hb.1 (.inr (kid_in (room_at h2).2.1 hx))
      refine ⟨ih.1, ?_, ?_⟩
      · have h4 := ih.2.1
        have h5 := hb.2.1
        simp only [List.length_append]
        omega
      · have h4 := ih.2.2
        have h5 := hb.2.2
        simp only
        omega
    exact ⟨this.1, this.2.1, by have := this.2.2; omega⟩
/-- The two walks tell the same tags, and meet the same rooms. -/
def MetEq (rs : List Rm) (a b : List Hd) : Prop := ∀ x, ¬ rof rs x < 0 → (x ∈ a ↔ x ∈ b)
theorem gat_told (rs : List Rm) : ∀ (n : Nat) (h : Hd) (a b : List Hd) (t : List Int), MetEq rs a b → (gatH n rs h (a, t)).2 = t ++ (toldS n rs h b).1 ∧ MetEq rs (gatH n rs h (a, t)).1 (toldS n rs h b).2
  | 0, _, _, _, t, he => ⟨by simp [gatH, toldS], he⟩
  | n + 1, h, a, b, t, he => by
    unfold gatH toldS hasH
    by_cases h2 : rof rs h < 0
    · simp only [decide_eq_true h2, Bool.true_or, cond_true, List.append_nil]
      cases decide (h ∈ a) with
      | true => exact ⟨rfl, he⟩
      | false =>
        refine ⟨rfl, fun x hx => ?_⟩
        simp only [cond_false, List.mem_append, List.mem_singleton]
        rw [he x hx]
        refine ⟨fun h3 => h3.resolve_right fun e => ?_, .inl⟩
        subst e
        exact hx h2
    · simp only [decide_eq_false h2, Bool.false_or]
      by_cases h1 : h ∈ a
      · rw [decide_eq_true h1, decide_eq_true ((he h h2).1 h1)]
        exact ⟨by simp, he⟩
      · rw [decide_eq_false h1, decide_eq_false fun h3 => h1 ((he h h2).2 h3)]
        simp only [cond_false]
        have hs : MetEq rs (a ++ [h]) (b ++ [h]) := fun x hx => by
          rw [List.mem_append, List.mem_append, he x hx]
        have key : ∀ (l : List Hd) (a b : List Hd) (t u : List Int), MetEq rs a b →
            (l.foldl (fun a kid => gatH n rs kid a) (a, t ++ u)).2 = t ++ (l.foldl (fun (b : List Int × List Hd) kid => (b.1 ++ (toldS n rs kid b.2).1, (toldS n rs kid b.2).2)) (u, b)).1 ∧
            MetEq rs (l.foldl (fun a kid => gatH n rs kid a) (a, t ++ u)).1 (l.foldl (fun (b : List Int × List Hd) kid => (b.1 ++ (toldS n rs kid b.2).1, (toldS n rs kid b.2).2)) (u, b)).2 := by
          intro l
          induction l with
          | nil => intro a b t u h3; exact ⟨rfl, h3⟩
          | cons x l ih =>
            intro a b t u h3
            obtain ⟨k1, k2⟩ := gat_told rs n x a b (t ++ u) h3
            simp only [List.foldl_cons]
            have e : gatH n rs x (a, t ++ u) = ((gatH n rs x (a, t ++ u)).1, t ++ (u ++ (toldS n rs x b).1)) := by rw [← List.append_assoc, ← k1]
            rw [e]
            exact ih _ _ t _ k2
        exact key _ _ _ t _ hs
end Go.Mach.F
namespace Go.Mach.F
open Go Go.Mach Go.Proofs.Try
theorem plainH (h : Hd) : plainF (cutT 0 1 (rowsT [[T.int .i64 h.slot, T.int .i64 h.gen]])) = atL Hd.cs [h] := by
  rw [show [T.int .i64 h.slot, T.int .i64 h.gen] = Hd.cs h from rfl, rows1 Hd.cs, show cutT 0 1 (atL Hd.cs [h]) = atL Hd.cs [h] from cut_all Hd.cs [h], plain_Hd]
theorem plain_cut_I (l : List Int) : plainF (cutT 0 l.length (atL rowI l)) = atL rowI l := by rw [cut_all, plain_I]
theorem kids_len {rs : List Rm} {r : Rm} (h : r ∈ rs) : r.kids.length ≤ (allK rs).length := by
  induction rs with
  | nil => cases h
  | cons x rs ih =>
    simp only [allK, List.flatMap_cons, List.length_append]
    rcases List.mem_cons.1 h with rfl | h1
    · omega
    · have := ih h1
      unfold allK at this
      omega
theorem body_gat (k : Nat) (m : Ml) (h : Hd) (a : List Hd) (b : List Int) (h0 : ok_gat (k + 1) (m, h, a, b)) : body prog (tabS [(i_ConH, e_ConH), (i_iRoomOf, e_iRoomOf), (i_iTagsDown, e_iTagsDown), (i_gat, e_gat k)]) kp_gat ((m.rooms.getD (rof m.rooms h).toNat zRm).kids.length + 1) F_gat (ea_gat (m, h, a, b)) = some ([oT (eL 2 Hd.cs (f_gat (k + 1) (m, h, a, b)).1), oT (eI (f_gat (k + 1) (m, h, a, b)).2)], [nul, nul, nul, nul]) := by
  have hlm := lm
  obtain ⟨hG, hb⟩ := h0
  obtain ⟨g0, hm, hh⟩ := hG.walk
  have hl : m.rooms.length ≤ LM := hG.rooms.1
  have ha := hm.len
  have hk := hG.kids
  have ht := hG.tags
  have hf := hG.fuel
  dsimp only at hl ha hk ht hf hb hm hh
  have hbl := Nat.le_trans hb (sumL_le m.rooms hm.nd)
  have hal : a.length ≤ LM := by omega
  have c0 : ok_idHd (a, h) := hal
  have c1 : ok_iRoomOf (m, h) := hl
  have s1 : (a.length + 1) * 16 ≤ 70368744177664 := by omega
  have s2 : a.length + 1 ≤ 70368744177664 := by omega
  unfold ea_gat f_gat gatH
  dsimp only
  rw [pre_gat]
  simp only [lt_d, ge0_d, Int.toNat_natCast, blt_d, ble_self, beq_self, decide_true, cond_true, Bool.and_self, Bool.and_true, Bool.true_and, gd_true, Nat.zero_add, List.getD_cons_zero, List.getD_cons_succ, isI_int, toI_int, isB_bool, toB_bool, eL_T, arr_ln, arr_fn, arr_wd, arr_is, arr_get, ble_d, Nat.le_refl, cut_all, Ml.cs, Hd.cs, s1, s2]
  rw [entK_of (dm_idHd c0) (iv_idHd c0)]
  have hix : @decide (0 ≤ f_idHd (a, h)) (Int.decLe 0 (f_idHd (a, h))) = decide (h ∈ a) := ixH_has a h
  rw [hix]
  simp only [hasH]
  by_cases h1 : h ∈ a
  · simp only [h1, decide_true, cond_true]
    rfl
  simp only [h1, decide_false, cond_false]
  rw [entK_of (dm_iRoomOf c1) (iv_iRoomOf c1)]
  simp only [d_iRoomOf, plainH, appF_app]
  by_cases h2 : rof m.rooms h < 0
  · simp only [h2, decide_true, cond_true, oT, eL_T, List.length_append, List.length_singleton]
    rfl
  have e1 := rof_lt h2
  obtain ⟨hx, hxm, _⟩ := room_at h2
  have hs := gat_start (a := (a, b)) (n := a.length) ⟨hm, hb, Nat.le_refl _⟩ hh h1 h2
  simp only at hs
  obtain ⟨x, hxe⟩ : ∃ x, x = m.rooms.getD (rof m.rooms h).toNat zRm := ⟨_, rfl⟩
  rw [← hxe] at hx hxm hs ⊢
  have hy := hG.rooms.2 _ hxm
  have c2 : ok_iTagsDown x.tags := hy.2.2
  have hsl := Nat.le_trans hs.2.1 (sumL_le m.rooms hs.1.nd)
  simp only [List.length_append, List.length_reverse] at hsl
  have s3 : (b.length + x.tags.length) * 8 ≤ 70368744177664 := by omega
  have s4 : b.length + x.tags.length ≤ 70368744177664 := by omega
  simp only [lt_d, ge0_d, Int.toNat_natCast, blt_d, ble_self, beq_self, decide_true, cond_true, Bool.and_self, Bool.and_true, Bool.true_and, gd_true, Nat.zero_add, List.getD_cons_zero, List.getD_cons_succ, isI_int, toI_int, isB_bool, toB_bool, eL_T, arr_ln, arr_fn, arr_wd, arr_is, arr_get, h2, decide_false, cond_false, e1.1, e1.2, atL_of hx, Rm.cs]
  rw [entK_of (dm_iTagsDown c2) (iv_iTagsDown c2)]
  simp only [d_iTagsDown, List.length_reverse, lt_d, ge0_d, Int.toNat_natCast, blt_d, ble_self, beq_self, decide_true, cond_true, Bool.and_self, Bool.and_true, Bool.true_and, gd_true, Nat.zero_add, List.getD_cons_zero, List.getD_cons_succ, isI_int, toI_int, isB_bool, toB_bool, eL_T, arr_ln, arr_fn, arr_wd, arr_is, arr_get, ble_d, Nat.le_refl, s3, s4]
  obtain ⟨F, hF⟩ : ∃ F : List Hd × List Int → Hd → List Hd × List Int, F = fun a kid => gatH k m.rooms kid a := ⟨_, rfl⟩
  obtain ⟨A, hA⟩ : ∃ A : Nat → List Hd × List Int, A = fun i => (x.kids.take i).foldl F (a ++ [h], b ++ x.tags.reverse) := ⟨_, rfl⟩
  have hAi : ∀ i, GatP m.rooms g0 (a.length + 1) (A i) := fun i => by
    rw [hA]
    refine fold_inv (GatP m.rooms g0 (a.length + 1)) F _ _ hs fun c y hy' hc => ?_
    rw [hF]
    exact gatH_inv m.rooms g0 k y c _ hc (.inr (kid_in hxm (List.mem_of_mem_take hy')))
  have hkl := kids_len hxm
  have hst : st_gat_1 k m h a b (rof m.rooms h) (a.length + 1) (atL Hd.cs (a ++ [h])) (b.length + x.tags.length) (appF b.length (atL rowI b) (plainF (atL rowI x.tags.reverse))) 0 = (fun i : Nat => st_gat_1 k m h a b (rof m.rooms h) (A i).1.length (atL Hd.cs (A i).1) (A i).2.length (atL rowI (A i).2) (i : Nat)) 0 := by
    rw [plain_I, appF_app, hA]
    simp only [List.take_zero, List.foldl_nil, List.length_append, List.length_singleton, List.length_reverse]
    rfl
  rw [hst, forLoop x.kids.length (fun i : Nat => st_gat_1 k m h a b (rof m.rooms h) (A i).1.length (atL Hd.cs (A i).1) (A i).2.length (atL rowI (A i).2) (i : Nat)) (ex_gat_1_1 k m h a b (rof m.rooms h) (A x.kids.length).1.length (atL Hd.cs (A x.kids.length).1) (A x.kids.length).2.length (atL rowI (A x.kids.length).2) x.kids.length) 0 (fun i K hi => ?_) (fun K => ?_) _ (Nat.le_refl _)]
  · rw [post_gat_1_1]
    simp only [lt_d, ge0_d, Int.toNat_natCast, blt_d, ble_self, beq_self, decide_true, cond_true, Bool.and_self, Bool.and_true, Bool.true_and, gd_true, Nat.zero_add, List.getD_cons_zero, List.getD_cons_succ, isI_int, toI_int, isB_bool, toB_bool, eL_T, arr_ln, arr_fn, arr_wd, arr_is, arr_get, ble_d, Nat.le_refl, oT, eL_T]
    rw [hA]
    simp only [List.take_length, hF]
    rfl
  · have hq := List.getElem?_eq_getElem hi
    obtain ⟨q, hqe⟩ : ∃ q, q = x.kids[i] := ⟨_, rfl⟩
    rw [← hqe] at hq
    have hAi1 : A (i + 1) = gatH k m.rooms q (A i) := by
      rw [hA]
      simp only [take_fold F hq]
      rw [hF]
    have hp := hAi i
    have hfu := hp.2.2
    have c3 : ok_gat k (m, q, (A i).1, (A i).2) := ⟨⟨hG.rooms, hk, ht, ⟨g0, hp.1, .inr (kid_in hxm (List.mem_of_getElem? hq))⟩, by dsimp only; omega⟩, hp.2.1⟩
    rw [round_gat_1, hAi1]
    simp (disch := omega) only [lt_d, ge0_d, Int.toNat_natCast, blt_d, ble_self, beq_self, decide_true, cond_true, Bool.and_self, Bool.and_true, Bool.true_and, gd_true, Nat.zero_add, List.getD_cons_zero, List.getD_cons_succ, isI_int, toI_int, isB_bool, toB_bool, eL_T, arr_ln, arr_fn, arr_wd, arr_is, arr_get, ble_d, Nat.le_refl, hi, atL_of hx, Rm.cs, atL_of hq, Hd.cs, wrapS]
    rw [entK_of (dm_gat c3) (iv_gat c3)]
    simp only [f_gat, lt_d, ge0_d, Int.toNat_natCast, blt_d, ble_self, beq_self, decide_true, cond_true, Bool.and_self, Bool.and_true, Bool.true_and, gd_true, Nat.zero_add, List.getD_cons_zero, List.getD_cons_succ, isI_int, toI_int, isB_bool, toB_bool, eL_T, arr_ln, arr_fn, arr_wd, arr_is, arr_get, ble_d, Nat.le_refl]
  · rw [round_gat_1]
    simp only [lt_d, ge0_d, Int.toNat_natCast, blt_d, ble_self, beq_self, decide_true, cond_true, Bool.and_self, Bool.and_true, Bool.true_and, gd_true, Nat.zero_add, List.getD_cons_zero, List.getD_cons_succ, isI_int, toI_int, isB_bool, toB_bool, eL_T, arr_ln, arr_fn, arr_wd, arr_is, arr_get, atL_of hx, Rm.cs, lt_d, Nat.lt_irrefl, decide_false, cond_false]
theorem s_gat : ∀ k, EntOk prog i_gat (e_gat k)
  | 0 => ent_ok ea_gat_inj fun x hx => by
    obtain ⟨g0, hm, _⟩ := hx.1.walk
    have h1 := hm.len
    have h2 := hx.1.fuel
    omega
  | k + 1 => ent_ok ea_gat_inj fun x hx =>
    body_sound (φ := (tabS [(i_ConH, e_ConH), (i_iRoomOf, e_iRoomOf), (i_iTagsDown, e_iTagsDown), (i_gat, e_gat k)])) (tabS_cons s_ConH (tabS_cons s_iRoomOf (tabS_cons s_iTagsDown (tabS_cons (s_gat k) tabS_nil)))) mixed (kp := kp_gat) (n := (x.1.rooms.getD (rof x.1.rooms x.2.1).toNat zRm).kids.length + 1) func60 (c := bodyOf F_gat) (by kernel_rfl) (body_gat k x.1 x.2.1 x.2.2.1 x.2.2.2 hx) (name_ok (by kernel_rfl))
theorem body_told (k : Nat) (m : Ml) (h : Hd) (a : List Hd) (h0 : ok_told (k + 1) (m, h, a)) : body prog (tabS [(i_sRoomOf, e_sRoomOf), (i_sHasH, e_sHasH), (i_sTagsDown, e_sTagsDown), (i_told, e_told k)]) kp_told ((m.rooms.getD (rof m.rooms h).toNat zRm).kids.length + 1) F_told (ea_told (m, h, a)) = some ([oT (eI (f_told (k + 1) (m, h, a)).1), oT (eL 2 Hd.cs (f_told (k + 1) (m, h, a)).2)], [nul, nul, nul]) := by
  have hlm := lm
  have hG : GatOk (k + 1) m h a := h0
  obtain ⟨g0, hm, hh⟩ := hG.walk
  have hl : m.rooms.length ≤ LM := hG.rooms.1
  have ha := hm.len
  have hk := hG.kids
  have ht := hG.tags
  have hf := hG.fuel
  have hal : a.length ≤ LM := by omega
  have c0 : ok_sHasH (a, h) := hal
  have c1 : ok_sRoomOf (m, h) := hl
  have s0 : a.length * 16 ≤ 70368744177664 := by omega
  have s1 : (a.length + 1) * 16 ≤ 70368744177664 := by omega
  have s2 : a.length + 1 ≤ 70368744177664 := by omega
  have s5 : a.length ≤ 70368744177664 := by omega
  have r0 : T.arr 1 0 (rowsT []) = T.arr 1 0 (atL rowI []) := by rw [rowsT0 rowI]
  unfold ea_told f_told toldS
  dsimp only
  rw [pre_told]
  simp only [Ml.cs, Hd.cs, eL_T]
  rw [entK_of (dm_sRoomOf c1) (iv_sRoomOf c1)]
  simp only [d_sRoomOf, lt_d, ge0_d, Int.toNat_natCast, blt_d, ble_self, beq_self, decide_true, cond_true, Bool.and_self, Bool.and_true, Bool.true_and, gd_true, Nat.zero_add, List.getD_cons_zero, List.getD_cons_succ, isI_int, toI_int, isB_bool, toB_bool, eL_T, arr_ln, arr_fn, arr_wd, arr_is, arr_get, ble_d, Nat.le_refl, cut_all, s0, s1, s2, s5]
  by_cases h2 : rof m.rooms h < 0
  · simp only [h2, decide_true, cond_true, Bool.true_or, r0]
    rfl
  simp only [h2, decide_false, cond_false, Bool.false_or]
  rw [entK_of (dm_sHasH c0) (iv_sHasH c0)]
  simp only [d_sHasH, hasH]
  by_cases h1 : h ∈ a
  · simp only [h1, decide_true, cond_true, r0]
    rfl
  have e1 := rof_lt h2
  obtain ⟨hx, hxm, htl⟩ := room_at h2
  obtain ⟨x, hxe⟩ : ∃ x, x = m.rooms.getD (rof m.rooms h).toNat zRm := ⟨_, rfl⟩
  rw [← hxe] at hx hxm htl ⊢
  have hy := hG.rooms.2 _ hxm
  have c2 : ok_sTagsDown x.tags := hy.2.2
  simp only [lt_d, ge0_d, Int.toNat_natCast, blt_d, ble_self, beq_self, decide_true, cond_true, Bool.and_self, Bool.and_true, Bool.true_and, gd_true, Nat.zero_add, List.getD_cons_zero, List.getD_cons_succ, isI_int, toI_int, isB_bool, toB_bool, eL_T, arr_ln, arr_fn, arr_wd, arr_is, arr_get, h1, decide_false, cond_false, e1.1, e1.2, atL_of hx, Rm.cs]
  rw [entK_of (dm_sTagsDown c2) (iv_sTagsDown c2)]
  simp only [d_sTagsDown, List.length_reverse, lt_d, ge0_d, Int.toNat_natCast, blt_d, ble_self, beq_self, decide_true, cond_true, Bool.and_self, Bool.and_true, Bool.true_and, gd_true, Nat.zero_add, List.getD_cons_zero, List.getD_cons_succ, isI_int, toI_int, isB_bool, toB_bool, eL_T, arr_ln, arr_fn, arr_wd, arr_is, arr_get, ble_d, Nat.le_refl]
  have hs : TolP m.rooms g0 (a.length + 1) 0 (x.tags.reverse, a ++ [h]) := by
    refine ⟨hm.add hh h1, ?_, by simp⟩
    simp only [List.length_reverse, sumL_app]
    have : sumL (tlK m.rooms) [h] = tlK m.rooms h := by rw [sumL_cons]; rfl
    omega
  obtain ⟨F, hF⟩ : ∃ F : List Int × List Hd → Hd → List Int × List Hd, F = fun b kid => (b.1 ++ (toldS k m.rooms kid b.2).1, (toldS k m.rooms kid b.2).2) := ⟨_, rfl⟩
  obtain ⟨A, hA⟩ : ∃ A : Nat → List Int × List Hd, A = fun i => (x.kids.take i).foldl F (x.tags.reverse, a ++ [h]) := ⟨_, rfl⟩
  have stepP : ∀ (c : List Int × List Hd) (y : Hd), y ∈ x.kids → TolP m.rooms g0 (a.length + 1) 0 c → TolP m.rooms g0 (a.length + 1) 0 (F c y) := fun c y hy' hc => by
    rw [hF]
    have ih := toldS_inv m.rooms g0 k y c.2 hc.1 (.inr (kid_in hxm hy'))
    refine ⟨ih.1, ?_, ?_⟩
    · have h4 := ih.2.1
      have h5 := hc.2.1
      simp only [List.length_append]
      omega
    · have h4 := ih.2.2
      have h5 := hc.2.2
      simp only
      omega
  have hAi : ∀ i, TolP m.rooms g0 (a.length + 1) 0 (A i) := fun i => by
    rw [hA]
    exact fold_inv (TolP m.rooms g0 (a.length + 1) 0) F _ _ hs fun c y hy' hc => stepP c y (List.mem_of_mem_take hy') hc
  have hst : st_told_1 k m h a (rof m.rooms h) (a.length + 1) (appF a.length (appF 0 (rowsT []) (plainF (atL Hd.cs a))) (plainF (cutT 0 1 (rowsT [[T.int IntKind.i64 h.slot, T.int IntKind.i64 h.gen]])))) x.tags.length (atL rowI x.tags.reverse) 0 = (fun i : Nat => st_told_1 k m h a (rof m.rooms h) (A i).2.length (atL Hd.cs (A i).2) (A i).1.length (atL rowI (A i).1) (i : Nat)) 0 := by
    rw [plainH, plain_Hd, app0, appF_app, hA]
    simp only [List.take_zero, List.foldl_nil, List.length_append, List.length_singleton, List.length_reverse]
    rfl
  rw [hst, forLoop x.kids.length (fun i : Nat => st_told_1 k m h a (rof m.rooms h) (A i).2.length (atL Hd.cs (A i).2) (A i).1.length (atL rowI (A i).1) (i : Nat)) (ex_told_1_1 k m h a (rof m.rooms h) (A x.kids.length).2.length (atL Hd.cs (A x.kids.length).2) (A x.kids.length).1.length (atL rowI (A x.kids.length).1) x.kids.length) 0 (fun i K hi => ?_) (fun K => ?_) _ (Nat.le_refl _)]
  · rw [post_told_1_1]
    simp only [lt_d, ge0_d, Int.toNat_natCast, blt_d, ble_self, beq_self, decide_true, cond_true, Bool.and_self, Bool.and_true, Bool.true_and, gd_true, Nat.zero_add, List.getD_cons_zero, List.getD_cons_succ, isI_int, toI_int, isB_bool, toB_bool, eL_T, arr_ln, arr_fn, arr_wd, arr_is, arr_get, ble_d, Nat.le_refl, oT, eL_T]
    rw [hA]
    simp only [List.take_length, hF]
    rfl
  · have hq := List.getElem?_eq_getElem hi
    obtain ⟨q, hqe⟩ : ∃ q, q = x.kids[i] := ⟨_, rfl⟩
    rw [← hqe] at hq
    have hAi1 : A (i + 1) = F (A i) q := by
      rw [hA]
      simp only [take_fold F hq]
    have hp := hAi i
    have hfu := hp.2.2
    have c3 : ok_told k (m, q, (A i).2) := ⟨hG.rooms, hk, ht, ⟨g0, hp.1, .inr (kid_in hxm (List.mem_of_getElem? hq))⟩, by dsimp only; omega⟩
    have hp1 := stepP (A i) q (List.mem_of_getElem? hq) hp
    have hp2 := Nat.le_trans hp1.2.1 (sumL_le m.rooms hp1.1.nd)
    rw [hF] at hp2
    simp only [List.length_append] at hp2
    have hkl := kids_len hxm
    have s6 : ((A i).1.length + (toldS k m.rooms q (A i).2).1.length) * 8 ≤ 70368744177664 := by omega
    have s7 : (A i).1.length + (toldS k m.rooms q (A i).2).1.length ≤ 70368744177664 := by omega
    rw [round_told_1, hAi1, hF]
    simp (disch := omega) only [lt_d, ge0_d, Int.toNat_natCast, blt_d, ble_self, beq_self, decide_true, cond_true, Bool.and_self, Bool.and_true, Bool.true_and, gd_true, Nat.zero_add, List.getD_cons_zero, List.getD_cons_succ, isI_int, toI_int, isB_bool, toB_bool, eL_T, arr_ln, arr_fn, arr_wd, arr_is, arr_get, ble_d, Nat.le_refl, hi, e1.1, e1.2, atL_of hx, Rm.cs, atL_of hq, Hd.cs, wrapS]
    rw [entK_of (dm_told c3) (iv_told c3)]
    simp only [f_told, lt_d, ge0_d, Int.toNat_natCast, blt_d, ble_self, beq_self, decide_true, cond_true, Bool.and_self, Bool.and_true, Bool.true_and, gd_true, Nat.zero_add, List.getD_cons_zero, List.getD_cons_succ, isI_int, toI_int, isB_bool, toB_bool, eL_T, arr_ln, arr_fn, arr_wd, arr_is, arr_get, ble_d, Nat.le_refl, s6, s7, plain_cut_I, appF_app, List.length_append]
  · rw [round_told_1]
    simp only [lt_d, ge0_d, Int.toNat_natCast, blt_d, ble_self, beq_self, decide_true, cond_true, Bool.and_self, Bool.and_true, Bool.true_and, gd_true, Nat.zero_add, List.getD_cons_zero, List.getD_cons_succ, isI_int, toI_int, isB_bool, toB_bool, eL_T, arr_ln, arr_fn, arr_wd, arr_is, arr_get, e1.1, e1.2, atL_of hx, Rm.cs, lt_d, Nat.lt_irrefl, decide_false, cond_false]
theorem s_told : ∀ k, EntOk prog i_told (e_told k)
  | 0 => ent_ok ea_told_inj fun x hx => by
    obtain ⟨g0, hm, _⟩ := hx.walk
    have h1 := hm.len
    have h2 := hx.fuel
    omega
  | k + 1 => ent_ok ea_told_inj fun x hx =>
    body_sound (φ := (tabS [(i_sRoomOf, e_sRoomOf), (i_sHasH, e_sHasH), (i_sTagsDown, e_sTagsDown), (i_told, e_told k)])) (tabS_cons s_sRoomOf (tabS_cons s_sHasH (tabS_cons s_sTagsDown (tabS_cons (s_told k) tabS_nil)))) mixed (kp := kp_told) (n := (x.1.rooms.getD (rof x.1.rooms x.2.1).toNat zRm).kids.length + 1) func53 (c := bodyOf F_told) (by kernel_rfl) (body_told k x.1 x.2.1 x.2.2 hx) (name_ok (by kernel_rfl))
end Go.Mach.F
namespace Go.Mach.F
open Go Go.Mach Go.Proofs.Try
theorem setF_k {j k j' k' : Nat} {u : T} {f : Nat → Nat → T} (h : Nat.beq k' k = false) : setF j k u f j' k' = f j' k' := by
  unfold setF
  rw [h, Bool.and_false]
  rfl
theorem setF_j {j k j' k' : Nat} {u : T} {f : Nat → Nat → T} (h : j' ≠ j) : setF j k u f j' k' = f j' k' := by
  unfold setF
  rw [beqF h, Bool.false_and]
  rfl
theorem gv_c1 {R : Type} (c : Dc) (x : Rm) (A B : R) : (bif decide (x.h ∈ c.met) then (bif c.whole then A else bif !(bif x.h.slot == c.h.slot then bif x.h.gen == c.h.gen then true else false else false) then A else B) else B) = bif gvK c x then A else B := by
  have e : (bif x.h.slot == c.h.slot then bif x.h.gen == c.h.gen then true else false else false) = decide (x.h = c.h) := by
    rw [cond_bf, cond_tf, int_eq, int_eq, dec_and, hd_e1]
    exact decide_eq_decide.2 (by simp)
  rw [e]
  unfold gvK hasH
  cases decide (x.h ∈ c.met) <;> cases c.whole <;> cases decide (x.h = c.h) <;> rfl
theorem gv_c2 {R : Type} (c : Dc) (x : Rm) (A B : R) : (bif decide (x.h ∈ c.met) then (bif c.whole then A else bif !!(bif x.h.slot == c.h.slot then bif x.h.gen == c.h.gen then true else false else false) then B else A) else B) = bif gvK c x then A else B := by
  rw [← gv_c1 c x A B]
  cases (bif x.h.slot == c.h.slot then bif x.h.gen == c.h.gen then true else false else false) <;> rfl
theorem hix (l : List Hd) (h : Hd) : @decide (0 ≤ f_idHd (l, h)) (Int.decLe 0 (f_idHd (l, h))) = decide (h ∈ l) := ixH_has l h
theorem ixP_of {α : Type} (p : α → Bool) (l : List α) : (∃ (i : Nat) (x : α), ixP p l = (i : Int) ∧ l[i]? = some x ∧ p x = true ∧ ∀ j, j < i → ∀ y, l[j]? = some y → p y = false) ∨ (ixP p l = -1 ∧ ∀ y, y ∈ l → p y = false) := by
  unfold ixP
  cases hf : (List.range l.length).find? (fun i => (l[i]?.map p).getD false) with
  | some i =>
    obtain ⟨h1, h2, h3⟩ := List.find?_range_eq_some.1 hf
    have hx := List.getElem?_eq_getElem (List.mem_range.1 h2)
    rw [hx] at h1
    refine .inl ⟨i, _, rfl, hx, h1, fun j hj y hy => ?_⟩
    have := h3 j hj
    rw [hy] at this
    simpa using this
  | none =>
    refine .inr ⟨rfl, fun y hy => ?_⟩
    obtain ⟨j, hj, e⟩ := List.getElem_of_mem hy
    have := List.find?_eq_none.1 hf j (List.mem_range.2 hj)
    rw [List.getElem?_eq_getElem hj, e] at this
    simpa using this
theorem body_ixR (l : List Rm) (c : Dc) (h0 : ok_ixR (l, c)) : body prog (tabS [(i_Give1, e_Give1)]) kp_ixR (l.length + 1) F_ixR (ea_ixR (l, c)) = some (erI 2 (f_ixR (l, c))) := by
  have hlm := lm
  obtain ⟨hl, hm⟩ := h0
  dsimp only at hl hm
  have c0 : ∀ x : Rm, ok_idHd (c.met, x.h) := fun _ => hm
  unfold ea_ixR f_ixR
  dsimp only
  rw [pre_ixR, show st_ixR_1 l c 0 = (fun i : Nat => st_ixR_1 l c (i : Nat)) 0 from rfl,
    forExit l.length (fun i : Nat => st_ixR_1 l c (i : Nat)) (ex_ixR_1_2 l c l.length) 0 (fun i => (l[i]?.map (gvK c)).getD false) .ret (by simp) (fun i => ex_ixR_1_1 l c i) (fun i K hi => ?_) (fun K => ?_) _ (Nat.le_refl _)]
  · unfold ixP
    cases (List.range l.length).find? (fun i => (l[i]?.map (gvK c)).getD false) with
    | some i => exact post_ixR_1_1 l c i _
    | none => exact post_ixR_1_2 l c l.length _
  · have hx := List.getElem?_eq_getElem hi
    obtain ⟨x, hxe⟩ : ∃ x, x = l[i] := ⟨_, rfl⟩
    rw [← hxe] at hx
    rw [round_ixR_1]
    simp (disch := omega) only [lt_d, ge0_d, Int.toNat_natCast, blt_d, ble_self, beq_self, decide_true, cond_true, Bool.and_self, Bool.and_true, Bool.true_and, gd_true, Nat.zero_add, List.getD_cons_zero, List.getD_cons_succ, isI_int, toI_int, isB_bool, toB_bool, eL_T, arr_ln, arr_fn, arr_wd, arr_is, arr_get, hi, atL_of hx, hx, Rm.cs, wrapS]
    rw [entK_of (dm_idHd (c0 x)) (iv_idHd (c0 x)), hix, gv_c1, Option.map_some, Option.getD_some]
  · rw [round_ixR_1]
    simp only [lt_d, Nat.lt_irrefl, decide_false, cond_false]
theorem s_ixR : EntOk prog i_ixR e_ixR := ent_ok ea_ixR_inj fun x hx =>
  body_sound (φ := (tabS [(i_Give1, e_Give1)])) (tabS_cons s_Give1 tabS_nil) mixed (kp := kp_ixR) (n := x.1.length + 1) func117 (c := bodyOf F_ixR) (by kernel_rfl) (body_ixR x.1 x.2 hx) (name_ok (by kernel_rfl))
/-- A room is moved away; a room is laid. -/
def mvF (f : Nat → Nat → T) (i : Nat) : Nat → Nat → T := setF i 10 T.hole (setF i 9 T.hole (setF i 4 T.hole f))
def ptF (f : Nat → Nat → T) (i : Nat) (x : Rm) : Nat → Nat → T := setF i 10 (eL 1 rowI x.tags) (setF i 9 (eL 1 Sf.cs x.things) (setF i 8 (.int .i64 x.bump) (setF i 7 (.bool x.cur) (setF i 6 (.int .i64 x.chunks) (setF i 5 (.int .i64 x.ep) (setF i 4 (eL 2 Hd.cs x.kids) (setF i 3 (.int .i64 x.up.gen) (setF i 2 (.int .i64 x.up.slot) (setF i 1 (.int .i64 x.h.gen) (setF i 0 (.int .i64 x.h.slot) f))))))))))
theorem mvF_off {f : Nat → Nat → T} {j j' k : Nat} (h : j' ≠ j) : mvF f j j' k = f j' k := by
  unfold mvF
  rw [setF_j h, setF_j h, setF_j h]
theorem ptF_off {f : Nat → Nat → T} {i j' k : Nat} {x : Rm} (h : j' ≠ i) : ptF f i x j' k = f j' k := by
  unfold ptF
  simp only [setF_j h]
theorem setF_d2 {j k k' : Nat} {u : T} {f : Nat → Nat → T} : setF j k u f j k' = bif Nat.beq k' k then u else f j k' := by
  unfold setF
  rw [Nat.beq_refl, Bool.true_and]
theorem ptF_at {f : Nat → Nat → T} {i k : Nat} {x : Rm} (h : k < 11) : ptF f i x i k = (Rm.cs x).getD k .hole := by
  unfold ptF
  simp only [setF_d2]
  rcases k with _ | _ | _ | _ | _ | _ | _ | _ | _ | _ | _ | k
  all_goals first | rfl | omega
/-- What DeleteFunc over rooms holds. -/
def rg (p : Rm → Bool) (l : List Rm) (b : Nat) : Nat → Nat → Nat → T
  | 0 => atL Rm.cs l
  | t + 1 => match l[b + t]? with
    | some x => bif p x then ptF (mvF (rg p l b t) (b + t)) (kpF p l (b + t)).length x else mvF (rg p l b t) (b + t)
    | none => rg p l b t
theorem rg_next (p : Rm → Bool) {l : List Rm} {b t : Nat} {x : Rm} (hx : l[b + t]? = some x) : rg p l b (t + 1) = bif p x then ptF (mvF (rg p l b t) (b + t)) (kpF p l (b + t)).length x else mvF (rg p l b t) (b + t) := by
  simp only [rg, hx]
theorem rg_inv (p : Rm → Bool) (l : List Rm) (b : Nat) (hb : (kpF p l b).length < b) (h0 : kpF p l b = l.take (kpF p l b).length) : ∀ t, b + t ≤ l.length → (kpF p l (b + t)).length < b + t ∧ (∀ j k, b + t ≤ j → rg p l b t j k = atL Rm.cs l j k) ∧ (∀ i k, i < (kpF p l (b + t)).length → k < 11 → rg p l b t i k = atL Rm.cs (kpF p l (b + t)) i k)
  | 0, _ => by
    refine ⟨hb, fun _ _ _ => rfl, fun i k hi _ => ?_⟩
    show atL Rm.cs l i k = atL Rm.cs (kpF p l b) i k
    have hi : i < (kpF p l b).length := hi
    unfold atL
    rw [h0, List.getElem?_take, if_pos hi]
  | t + 1, ht => by
    obtain ⟨h1, h2, h3⟩ := rg_inv p l b hb h0 t (by omega)
    have hj : b + t < l.length := by omega
    have hx := List.getElem?_eq_getElem hj
    obtain ⟨x, hxe⟩ : ∃ x, x = l[b + t] := ⟨_, rfl⟩
    rw [← hxe] at hx
    rw [rg_next p hx, show b + (t + 1) = b + t + 1 from rfl, kpF_next p hx]
    cases p x with
    | false =>
      simp only [cond_false]
      exact ⟨by omega, fun j k hjk => by rw [mvF_off (by omega)]; exact h2 j k (by omega), fun i k hi hk => by rw [mvF_off (by omega)]; exact h3 i k hi hk⟩
    | true =>
      simp only [cond_true, List.length_append, List.length_singleton]
      refine ⟨by omega, fun j k hjk => by rw [ptF_off (by omega), mvF_off (by omega)]; exact h2 j k (by omega), fun i k hi hk => ?_⟩
      by_cases e : i = (kpF p l (b + t)).length
      · subst e
        rw [ptF_at hk]
        have : (kpF p l (b + t) ++ [x])[(kpF p l (b + t)).length]? = some x := by simp
        rw [atL_of this]
      · rw [ptF_off e, mvF_off (by omega), h3 i k (by omega) hk]
        unfold atL
        rw [List.getElem?_append_left (by omega)]
theorem body_delR (l : List Rm) (c : Dc) (h0 : ok_delR (l, c)) : ∃ g, body prog (tabS [(i_ixR, e_ixR), (i_Give1, e_Give1)]) kp_delR (l.length + 1) F_delR (ea_delR (l, c)) = some ([oT (.arr 11 (f_delR (l, c)).length g)], [nul, nul]) ∧ ∀ j k, j < (f_delR (l, c)).length → k < 11 → g j k = atL Rm.cs (f_delR (l, c)) j k := by
  have hlm := lm
  obtain ⟨hl, hm⟩ := h0
  dsimp only at hl hm
  have c0 : ok_ixR (l, c) := ⟨hl, hm⟩
  have c1 : ∀ x : Rm, ok_idHd (c.met, x.h) := fun _ => hm
  obtain ⟨p, hp⟩ : ∃ p : Rm → Bool, p = fun y => !gvK c y := ⟨_, rfl⟩
  have hf : f_delR (l, c) = kpF p l l.length := by
    unfold f_delR kpF
    rw [List.take_length, hp]
  unfold ea_delR
  dsimp only
  rw [pre_delR]
  simp only [lt_d, ge0_d, Int.toNat_natCast, blt_d, ble_self, beq_self, decide_true, cond_true, Bool.and_self, Bool.and_true, Bool.true_and, gd_true, Nat.zero_add, List.getD_cons_zero, List.getD_cons_succ, isI_int, toI_int, isB_bool, toB_bool, eL_T, arr_ln, arr_fn, arr_wd, arr_is, arr_get, ble_d, Nat.le_refl, cut_all, List.length_cons, List.length_nil, Nat.reduceAdd]
  rw [entK_of (dm_ixR c0) (iv_ixR c0)]
  simp only [d_ixR, int_eq]
  rcases ixP_of (gvK c) l with ⟨i0, x0, e, hi0, hp0, hno⟩ | ⟨e, hn⟩
  · have hne : ¬ (i0 : Int) = -1 := by omega
    have hlt := (List.getElem?_eq_some_iff.1 hi0).1
    have hpre : kpF p l i0 = l.take i0 := kpF_pre p fun j hj x hx => by
      rw [hp]
      simp [hno j hj x hx]
    have hph : p x0 = false := by rw [hp]; simp [hp0]
    have hF1 : kpF p l (i0 + 1) = l.take i0 := by rw [kpF_next p hi0, hph, cond_false, hpre]
    have hL1 : (kpF p l (i0 + 1)).length = i0 := by rw [hF1, List.length_take]; omega
    have hinv := rg_inv p l (i0 + 1) (by omega) (by rw [hL1, hF1])
    rw [e]
    simp (disch := omega) only [hne, decide_false, cond_false, wrapS]
    have hst : st_delR_1 l c l.length (atL Rm.cs l) (i0 : Int) ((i0 + 1 : Nat) : Int) = (fun t : Nat => st_delR_1 l c l.length (rg p l (i0 + 1) t) ((kpF p l (i0 + 1 + t)).length : Int) ((i0 + 1 + t : Nat) : Int)) 0 := by
      simp only [Nat.add_zero, hL1, rg]
    rw [hst, forLoop (l.length - (i0 + 1)) (fun t : Nat => st_delR_1 l c l.length (rg p l (i0 + 1) t) ((kpF p l (i0 + 1 + t)).length : Int) ((i0 + 1 + t : Nat) : Int)) (ex_delR_1_1 l c l.length (rg p l (i0 + 1) (l.length - (i0 + 1))) ((kpF p l l.length).length : Int) (l.length : Int)) 0 (fun t K ht => ?_) (fun K => ?_) _ (by omega)]
    · have hle := kpF_len p l (Nat.le_refl l.length)
      have q1 : ((kpF p l l.length).length : Int) ≤ (l.length : Int) := by omega
      have q2 : (kpF p l l.length).length + (l.length - (kpF p l l.length).length) ≤ l.length := by omega
      rw [post_delR_1_1]
      simp only [lt_d, ge0_d, Int.toNat_natCast, blt_d, ble_self, beq_self, decide_true, cond_true, Bool.and_self, Bool.and_true, Bool.true_and, gd_true, Nat.zero_add, List.getD_cons_zero, List.getD_cons_succ, isI_int, toI_int, isB_bool, toB_bool, eL_T, arr_ln, arr_fn, arr_wd, arr_is, arr_get, q1, q2, ble_d, Nat.le_refl, Int.le_refl, Nat.sub_zero, hle]
      rw [hf]
      refine ⟨_, rfl, fun j k hj hk => ?_⟩
      unfold fillT
      rw [ble_d, decide_eq_false (by omega : ¬ (kpF p l l.length).length ≤ j)]
      simp only [Bool.false_and, Bool.and_false, cond_false]
      have h3 := (hinv (l.length - (i0 + 1)) (by omega)).2.2 j k
      rw [show i0 + 1 + (l.length - (i0 + 1)) = l.length from by omega] at h3
      exact h3 hj hk
    · have hjt : i0 + 1 + t < l.length := by omega
      have hx := List.getElem?_eq_getElem hjt
      obtain ⟨x, hxe⟩ : ∃ x, x = l[i0 + 1 + t] := ⟨_, rfl⟩
      rw [← hxe] at hx
      obtain ⟨h1, h2, _⟩ := hinv t (by omega)
      have hA : ∀ k, rg p l (i0 + 1) t (i0 + 1 + t) k = (Rm.cs x).getD k .hole := fun k => by rw [h2 _ k (Nat.le_refl _), atL_of hx]
      have q0 : (kpF p l (i0 + 1 + t)).length < l.length := by omega
      have w1 : IntKind.i64.wrap (((i0 + 1 + t : Nat) : Int) + 1) = ((i0 + 1 + (t + 1) : Nat) : Int) := wrapS (by omega)
      have w2 : IntKind.i64.wrap (((kpF p l (i0 + 1 + t)).length : Int) + 1) = (((kpF p l (i0 + 1 + t)).length + 1 : Nat) : Int) := wrapS (by omega)
      have hpx : p x = !gvK c x := by rw [hp]
      rw [rg_next p hx, show i0 + 1 + (t + 1) = i0 + 1 + t + 1 from rfl, kpF_next p hx, hpx]
      rw [round_delR_1]
      simp only [lt_d, ge0_d, Int.toNat_natCast, blt_d, ble_self, beq_self, decide_true, cond_true, Bool.and_self, Bool.and_true, Bool.true_and, gd_true, Nat.zero_add, List.getD_cons_zero, List.getD_cons_succ, isI_int, toI_int, isB_bool, toB_bool, eL_T, arr_ln, arr_fn, arr_wd, arr_is, arr_get, hjt, q0, ble_d, Nat.le_refl, setF_k (rfl : Nat.beq 9 4 = false), setF_k (rfl : Nat.beq 10 9 = false), setF_k (rfl : Nat.beq 10 4 = false), hA, Rm.cs, w1, w2]
      rw [entK_of (dm_idHd (c1 x)) (iv_idHd (c1 x)), hix, gv_c2]
      cases gvK c x with
      | true => rfl
      | false =>
        simp only [Bool.not_false, cond_true, cond_false, List.length_append, List.length_singleton]
        unfold ptF mvF
        rfl
    · have e1 : i0 + 1 + (l.length - (i0 + 1)) = l.length := by omega
      rw [round_delR_1]
      simp only [e1, lt_d, Nat.lt_irrefl, decide_false, cond_false]
  · have hff : f_delR (l, c) = l := by
      unfold f_delR
      refine List.filter_eq_self.2 fun x hx => ?_
      simp [hn x hx]
    rw [e, hff]
    simp only [decide_true, cond_true]
    exact ⟨_, rfl, fun _ _ _ _ => rfl⟩
theorem s_delR : EntOk prog i_delR e_delR := ent_ok ea_delR_inj fun x hx => by
  obtain ⟨g, hb, hg⟩ := body_delR x.1 x.2 hx
  exact Sound.cut1 (body_sound (φ := (tabS [(i_ixR, e_ixR), (i_Give1, e_Give1)])) (tabS_cons s_ixR (tabS_cons s_Give1 tabS_nil)) mixed (kp := kp_delR) (n := x.1.length + 1) func61 (c := bodyOf F_delR) (by kernel_rfl) hb (name_ok (by kernel_rfl))) hg
end Go.Mach.F
namespace Go.Mach.F
open Go Go.Mach Go.Proofs.Try
--=set_option maxRecDepth 100000
/-- A room behind a give. -/
def givR (h : Hd) (w : Bool) (r : Rm) : Rm := bif decide (r.h = h) then ⟨r.h, r.up, [], IntKind.i64.wrap (r.ep + 1), 0, false, 0, [], []⟩ else bif w then { r with kids := r.kids.filter (fun y => !decide (y = h)) } else r
def givN (m : Ml) : Nat := (allK m.rooms).length + 2
def givM (m : Ml) (h : Hd) (w : Bool) : Ml × Int := bif decide ((rsv m h).2 = 0) then (⟨m.c, (m.rooms.filter (fun r => !gvK ⟨(gatH (givN m) m.rooms h ([], [])).1, w, h⟩ r)).map (givR h w), m.log ++ (gatH (givN m) m.rooms h ([], [])).2⟩, 0) else (m, (rsv m h).2)
def ok_iEagerGive (x : Ml × Hd × Bool) : Prop := ok_RmS x.1.rooms ∧ ok_LI x.1.log ∧ (allK x.1.rooms).length < LM ∧ cntL (fun r => r.tags.length) x.1.rooms ≤ LM
def ea_iEagerGive (x : Ml × Hd × Bool) : List Arg := [aR x.1.cs, aR x.2.1.cs, aB x.2.2]
def f_iEagerGive (x : Ml × Hd × Bool) : Ml × Int := givM x.1 x.2.1 x.2.2
noncomputable def e_iEagerGive : Ent := ent [] ok_iEagerGive ea_iEagerGive (fun (x : Ml × Int) => ([oR x.1.cs, oT (.int .i64 x.2)], [nul, nul, nul])) f_iEagerGive
theorem ea_iEagerGive_inj (x y : Ml × Hd × Bool) (h : ea_iEagerGive x = ea_iEagerGive y) : x = y := by
  obtain ⟨m1, h1, w1⟩ := x
  obtain ⟨m2, h2, w2⟩ := y
  simp only [ea_iEagerGive, List.cons.injEq, and_true, true_and] at h
  obtain ⟨e0, e1, e2⟩ := h
  obtain rfl := Ml.cs_ext (aR_inj e0)
  obtain rfl := Hd.cs_ext (aR_inj e1)
  obtain rfl := aB_inj e2
  rfl
theorem dm_iEagerGive {m : Ml} {h : Hd} {w : Bool} (h0 : ok_iEagerGive (m, h, w)) : dom ok_iEagerGive ea_iEagerGive [(0, true, [C.tr false (T.int IntKind.i64 m.c.chunks), C.tr false (T.int IntKind.i64 m.c.size), C.tr false (T.int IntKind.i64 m.c.slots), C.tr false (T.int IntKind.i64 m.c.tax), C.tr false (T.int IntKind.i64 m.c.slice), C.tr false (T.int IntKind.i64 m.c.gens), C.tr false (T.arr 11 m.rooms.length (atL Rm.cs m.rooms)), C.tr false (T.arr 1 m.log.length (atL rowI m.log))]), (0, true, [C.tr false (T.int IntKind.i64 h.slot), C.tr false (T.int IntKind.i64 h.gen)]), (0, false, [C.tr false (T.bool w)])] = true := dom_ea (ea := ea_iEagerGive) (x := (m, h, w)) h0
theorem iv_iEagerGive {m : Ml} {h : Hd} {w : Bool} (h0 : ok_iEagerGive (m, h, w)) : inv ok_iEagerGive ea_iEagerGive [(0, true, [C.tr false (T.int IntKind.i64 m.c.chunks), C.tr false (T.int IntKind.i64 m.c.size), C.tr false (T.int IntKind.i64 m.c.slots), C.tr false (T.int IntKind.i64 m.c.tax), C.tr false (T.int IntKind.i64 m.c.slice), C.tr false (T.int IntKind.i64 m.c.gens), C.tr false (T.arr 11 m.rooms.length (atL Rm.cs m.rooms)), C.tr false (T.arr 1 m.log.length (atL rowI m.log))]), (0, true, [C.tr false (T.int IntKind.i64 h.slot), C.tr false (T.int IntKind.i64 h.gen)]), (0, false, [C.tr false (T.bool w)])] = (m, h, w) := inv_ea ea_iEagerGive_inj (x := (m, h, w)) h0
theorem d_iEagerGive (m : Ml) (h : Hd) (w : Bool) : f_iEagerGive (m, h, w) = givM m h w := rfl
def ok_sEagerGive (x : Ml × Hd × Bool) : Prop := ok_RmS x.1.rooms ∧ ok_LI x.1.log ∧ (allK x.1.rooms).length < LM ∧ cntL (fun r => r.tags.length) x.1.rooms ≤ LM
def ea_sEagerGive (x : Ml × Hd × Bool) : List Arg := [aR x.1.cs, aR x.2.1.cs, aB x.2.2]
def f_sEagerGive (x : Ml × Hd × Bool) : Ml × Int := givM x.1 x.2.1 x.2.2
noncomputable def e_sEagerGive : Ent := ent [] ok_sEagerGive ea_sEagerGive (fun (x : Ml × Int) => ([oR x.1.cs, oT (.int .i64 x.2)], [nul, nul, nul])) f_sEagerGive
theorem ea_sEagerGive_inj (x y : Ml × Hd × Bool) (h : ea_sEagerGive x = ea_sEagerGive y) : x = y := by
  obtain ⟨m1, h1, w1⟩ := x
  obtain ⟨m2, h2, w2⟩ := y
  simp only [ea_sEagerGive, List.cons.injEq, and_true, true_and] at h
  obtain ⟨e0, e1, e2⟩ := h
  obtain rfl := Ml.cs_ext (aR_inj e0)
  obtain rfl := Hd.cs_ext (aR_inj e1)
  obtain rfl := aB_inj e2
  rfl
theorem dm_sEagerGive {m : Ml} {h : Hd} {w : Bool} (h0 : ok_sEagerGive (m, h, w)) : dom ok_sEagerGive ea_sEagerGive [(0, true, [C.tr false (T.int IntKind.i64 m.c.chunks), C.tr false (T.int IntKind.i64 m.c.size), C.tr false (T.int IntKind.i64 m.c.slots), C.tr false (T.int IntKind.i64 m.c.tax), C.tr false (T.int IntKind.i64 m.c.slice), C.tr false (T.int IntKind.i64 m.c.gens), C.tr false (T.arr 11 m.rooms.length (atL Rm.cs m.rooms)), C.tr false (T.arr 1 m.log.length (atL rowI m.log))]), (0, true, [C.tr false (T.int IntKind.i64 h.slot), C.tr false (T.int IntKind.i64 h.gen)]), (0, false, [C.tr false (T.bool w)])] = true := dom_ea (ea := ea_sEagerGive) (x := (m, h, w)) h0
theorem iv_sEagerGive {m : Ml} {h : Hd} {w : Bool} (h0 : ok_sEagerGive (m, h, w)) : inv ok_sEagerGive ea_sEagerGive [(0, true, [C.tr false (T.int IntKind.i64 m.c.chunks), C.tr false (T.int IntKind.i64 m.c.size), C.tr false (T.int IntKind.i64 m.c.slots), C.tr false (T.int IntKind.i64 m.c.tax), C.tr false (T.int IntKind.i64 m.c.slice), C.tr false (T.int IntKind.i64 m.c.gens), C.tr false (T.arr 11 m.rooms.length (atL Rm.cs m.rooms)), C.tr false (T.arr 1 m.log.length (atL rowI m.log))]), (0, true, [C.tr false (T.int IntKind.i64 h.slot), C.tr false (T.int IntKind.i64 h.gen)]), (0, false, [C.tr false (T.bool w)])] = (m, h, w) := inv_ea ea_sEagerGive_inj (x := (m, h, w)) h0
theorem d_sEagerGive (m : Ml) (h : Hd) (w : Bool) : f_sEagerGive (m, h, w) = givM m h w := rfl
def i_iEagerGive : Nat := 16
noncomputable abbrev F_iEagerGive : Func := f16
def kp_iEagerGive : List (Nat × List Nat) := [(0, [12, 13, 16, 17, 20, 21, 24, 25, 32, 33, 64, 100, 316]), (1, [12, 13, 16, 17, 20, 21, 24, 25, 32, 33, 64, 100, 316]), (2, [12, 13, 16, 17, 20, 21, 24, 25, 32, 33, 40, 64, 100, 316]), (3, [12, 13, 16, 17, 20, 21, 24, 25, 32, 33, 40, 64, 96, 100, 316]), (4, [24, 25, 28, 32, 33, 64, 100, 316]), (5, [16, 17, 20, 21, 24, 25, 32, 33, 44, 45, 48, 64, 100, 108, 120, 124, 316]), (6, [16, 17, 20, 21, 24, 25, 32, 33, 48, 64, 100, 316]), (7, [16, 17, 20, 21, 24, 25, 32, 33, 48, 64, 100, 152, 156, 160, 164, 316]), (8, [16, 17, 20, 21, 24, 25, 32, 33, 48, 64, 100, 152, 156, 160, 164, 168, 316]), (9, [16, 17, 20, 21, 24, 25, 32, 33, 48, 52, 56, 57, 64, 100, 152, 156, 160, 164, 176, 180, 316]), (10, [16, 17, 20, 21, 24, 25, 32, 33, 48, 52, 56, 57, 64, 100, 152, 156, 160, 164, 176, 180, 184, 316]), (11, [16, 17, 20, 21, 24, 25, 32, 33, 48, 64, 100, 152, 156, 160, 164, 316]), (12, [16, 17, 20, 21, 24, 25, 32, 33, 48, 52, 56, 57, 64, 100, 152, 156, 160, 164, 176, 180, 248, 316]), (13, [16, 17, 20, 21, 24, 25, 32, 33, 48, 64, 100, 152, 156, 160, 164, 316]), (14, [16, 17, 20, 21, 24, 25, 32, 33, 48, 64, 100, 152, 156, 160, 164, 316]), (15, [24, 25, 32, 33, 64, 100, 316]), (16, [24, 25, 28, 32, 33, 64, 100, 316])]
def ts_iEagerGive : List Nat := [0, 0, 0]
def st_iEagerGive_1 (k : Nat) (m : Ml) (h : Hd) (w : Bool) (r1 : Ml) (r3 : List Hd × List Int) (r4 : List Rm) (nx33_6 : Nat) (fx33_6 : Nat → Nat → T) (x164 : Int) : St := [(16, ⟨z0, [(false, [(C.pt (Pt.ptr 17 0 [] 2 0 0))])]⟩), (17, ⟨z0, [(true, [.tr true (T.int IntKind.i64 h.1), .tr true (T.int IntKind.i64 h.2)])]⟩), (20, ⟨z0, [(false, [(C.pt (Pt.ptr 21 0 [] 1 0 0))])]⟩), (21, ⟨z0, [(false, [.tr true (T.bool w)])]⟩), (24, ⟨z0, [(false, [(C.pt (Pt.ptr 25 0 [] 8 0 0))])]⟩), (25, ⟨z0, [(true, [.tr true (T.int IntKind.i64 0), .tr true (T.int IntKind.i64 0), .tr true (T.int IntKind.i64 0), .tr true (T.int IntKind.i64 0), .tr true (T.int IntKind.i64 0), .tr true (T.int IntKind.i64 0), .tr true (.arr (11) (0) (fun x x_1 => T.hole)), .tr true (.arr (1) (0) (fun x x_1 => T.hole))])]⟩), (32, ⟨z0, [(false, [(C.pt (Pt.ptr 33 0 [] 8 0 0))])]⟩), (33, ⟨z0, [(true, [.tr true (T.int IntKind.i64 r1.c.1), .tr true (T.int IntKind.i64 r1.c.2), .tr true (T.int IntKind.i64 r1.c.3), .tr true (T.int IntKind.i64 r1.c.4), .tr true (T.int IntKind.i64 r1.c.5), .tr true (T.int IntKind.i64 r1.c.6), .tr true (.arr (11) (nx33_6) (fx33_6)), .tr true (.arr (1) (r1.3.length) ((eL 1 rowI r1.3).fn))])]⟩), (48, ⟨z0, [(false, [.tr true (.arr (1) (r3.2.length) (atL rowI r3.2))])]⟩), (64, ⟨z0, [(true, [.tr true (T.int IntKind.i64 r1.c.1), .tr true (T.int IntKind.i64 r1.c.2), .tr true (T.int IntKind.i64 r1.c.3), .tr true (T.int IntKind.i64 r1.c.4), .tr true (T.int IntKind.i64 r1.c.5), .tr true (T.int IntKind.i64 r1.c.6), .tr true (T.hole), .tr true (T.hole)])]⟩), (152, ⟨z0, [(false, [(C.pt (Pt.ptr 33 0 [] 8 0 6))])]⟩), (156, ⟨z0, [(false, [(C.ref 33 0 [0, 6] 11 0 r4.length)])]⟩), (160, ⟨z0, [(false, [.tr true (T.int IntKind.i64 (↑r4.length : Int))])]⟩), (164, ⟨z0, [(false, [.tr true (T.int IntKind.i64 x164)])]⟩)]
def ex_iEagerGive_1_1 (k : Nat) (m : Ml) (h : Hd) (w : Bool) (r1 : Ml) (r3 : List Hd × List Int) (r4 : List Rm) (nx33_6 : Nat) (fx33_6 : Nat → Nat → T) (x164 : Int) : St := [(16, ⟨z0, [(false, [(C.pt (Pt.ptr 17 0 [] 2 0 0))])]⟩), (17, ⟨z0, [(true, [.tr true (T.int IntKind.i64 h.1), .tr true (T.int IntKind.i64 h.2)])]⟩), (20, ⟨z0, [(false, [(C.pt (Pt.ptr 21 0 [] 1 0 0))])]⟩), (21, ⟨z0, [(false, [.tr true (T.bool w)])]⟩), (24, ⟨z0, [(false, [(C.pt (Pt.ptr 25 0 [] 8 0 0))])]⟩), (25, ⟨z0, [(true, [.tr true (T.int IntKind.i64 0), .tr true (T.int IntKind.i64 0), .tr true (T.int IntKind.i64 0), .tr true (T.int IntKind.i64 0), .tr true (T.int IntKind.i64 0), .tr true (T.int IntKind.i64 0), .tr true (.arr (11) (0) (fun x x_1 => T.hole)), .tr true (.arr (1) (0) (fun x x_1 => T.hole))])]⟩), (32, ⟨z0, [(false, [(C.pt (Pt.ptr 33 0 [] 8 0 0))])]⟩), (33, ⟨z0, [(true, [.tr true (T.int IntKind.i64 r1.c.1), .tr true (T.int IntKind.i64 r1.c.2), .tr true (T.int IntKind.i64 r1.c.3), .tr true (T.int IntKind.i64 r1.c.4), .tr true (T.int IntKind.i64 r1.c.5), .tr true (T.int IntKind.i64 r1.c.6), .tr true (.arr (11) (nx33_6) (fx33_6)), .tr true (.arr (1) (r1.3.length) ((eL 1 rowI r1.3).fn))])]⟩), (48, ⟨z0, [(false, [.tr true (.arr (1) (r3.2.length) (atL rowI r3.2))])]⟩), (64, ⟨z0, [(true, [.tr true (T.int IntKind.i64 r1.c.1), .tr true (T.int IntKind.i64 r1.c.2), .tr true (T.int IntKind.i64 r1.c.3), .tr true (T.int IntKind.i64 r1.c.4), .tr true (T.int IntKind.i64 r1.c.5), .tr true (T.int IntKind.i64 r1.c.6), .tr true (T.hole), .tr true (T.hole)])]⟩), (152, ⟨z0, [(false, [(C.pt (Pt.ptr 33 0 [] 8 0 6))])]⟩), (156, ⟨z0, [(false, [(C.ref 33 0 [0, 6] 11 0 r4.length)])]⟩), (160, ⟨z0, [(false, [.tr true (T.int IntKind.i64 (↑r4.length : Int))])]⟩), (164, ⟨z0, [(false, [.tr true (T.int IntKind.i64 x164)])]⟩), (168, ⟨z0, []⟩)]
theorem round_iEagerGive_1 (k : Nat) (m : Ml) (h : Hd) (w : Bool) (r1 : Ml) (r3 : List Hd × List Int) (r4 : List Rm) (nx33_6 : Nat) (fx33_6 : Nat → Nat → T) (x164 : Int) (n : Nat) (K : Ex → St → Res) : roundAt prog (tabS [(i_iModel, e_iModel), (i_iRsv, e_iRsv), (i_delR, e_delR), (i_delH, e_delH), (i_gat, e_gat k)]) kp_iEagerGive F_iEagerGive [1, 1, 1, 1, 1, 0, 1, 0] n (st_iEagerGive_1 k m h w r1 r3 r4 nx33_6 fx33_6 x164) K = (
 bif decide (x164 < (↑r4.length : Int)) then
  gd (decide (0 ≤ x164) && (x164.toNat.blt r4.length && true)) <|
  gd ((0 + x164.toNat).blt nx33_6 && true &&
  (T.isI IntKind.i64 (fx33_6 (0 + x164.toNat) 0) && T.isI IntKind.i64 (fx33_6 (0 + x164.toNat) 1) &&
                    T.isI IntKind.i64 (fx33_6 (0 + x164.toNat) 2) &&
                  T.isI IntKind.i64 (fx33_6 (0 + x164.toNat) 3) &&
                ((fx33_6 (0 + x164.toNat) 4).isArr && (fx33_6 (0 + x164.toNat) 4).wd.beq 2) &&
              T.isI IntKind.i64 (fx33_6 (0 + x164.toNat) 5) &&
            T.isI IntKind.i64 (fx33_6 (0 + x164.toNat) 6) &&
          (fx33_6 (0 + x164.toNat) 7).isB &&
        T.isI IntKind.i64 (fx33_6 (0 + x164.toNat) 8) &&
      ((fx33_6 (0 + x164.toNat) 9).isArr && (fx33_6 (0 + x164.toNat) 9).wd.beq 1) &&
    ((fx33_6 (0 + x164.toNat) 10).isArr && (fx33_6 (0 + x164.toNat) 10).wd.beq 1))) <|
  bif bif (fx33_6 (0 + x164.toNat) 0).toI == h.1 then bif (fx33_6 (0 + x164.toNat) 1).toI == h.2 then true else false
else false then
   gd (decide (0 ≤ x164) && (x164.toNat.blt nx33_6 && true)) <|
   gd ((0 + x164.toNat).blt nx33_6 && true && true) <|
   gd ((0 + x164.toNat).blt nx33_6 && true && true) <|
   gd ((0 + x164.toNat).blt nx33_6 && true && true) <|
   gd ((0 + x164.toNat).blt nx33_6 && true && true) <|
   gd ((0 + x164.toNat).blt nx33_6 && true && true) <|
   gd ((0 + x164.toNat).blt nx33_6 && true && true) <|
   gd ((0 + x164.toNat).blt nx33_6 && true && true) <|
   gd ((0 + x164.toNat).blt nx33_6 && true && true) <|
   gd ((0 + x164.toNat).blt nx33_6 && true && true) <|
   gd ((0 + x164.toNat).blt nx33_6 && true && true) <|
   gd ((0 + x164.toNat).blt nx33_6 && true && true) <|
   K .normal (st_iEagerGive_1 k m h w r1 r3 r4 (nx33_6) (setF (0 + x164.toNat) (3 + 1 + 1 + 1 + 1 + 1 + 1 + 1) (T.arr 1 0 fun x x_1 => T.hole)
  (setF (0 + x164.toNat) (3 + 1 + 1 + 1 + 1 + 1 + 1) (T.arr 1 0 fun x x_1 => T.hole)
    (setF (0 + x164.toNat) (3 + 1 + 1 + 1 + 1 + 1) (T.int IntKind.i64 0)
      (setF (0 + x164.toNat) (3 + 1 + 1 + 1 + 1) (T.bool false)
        (setF (0 + x164.toNat) (3 + 1 + 1 + 1) (T.int IntKind.i64 0)
          (setF (0 + x164.toNat) (3 + 1 + 1)
            (T.int IntKind.i64 (IntKind.i64.wrap ((fx33_6 (0 + x164.toNat) 5).toI + 1)))
            (setF (0 + x164.toNat) (3 + 1) (T.arr 2 0 fun x x_1 => T.hole)
              (setF (0 + x164.toNat) 3 (T.int IntKind.i64 (fx33_6 (0 + x164.toNat) 3).toI)
                (setF (0 + x164.toNat) 2 (T.int IntKind.i64 (fx33_6 (0 + x164.toNat) 2).toI)
                  (setF (0 + x164.toNat) 1 (T.int IntKind.i64 h.2)
                    (setF (0 + x164.toNat) 0 (T.int IntKind.i64 h.1) fx33_6))))))))))) (IntKind.i64.wrap (x164 + 1)))
  else
  bif w then
   gd ((0 + x164.toNat).blt nx33_6 && true && true && ((T.arr 11 nx33_6 fx33_6).get [0 + x164.toNat, 4]).isArr) <|
   gd ((fx33_6 (0 + x164.toNat) 4).ln.ble ((T.arr 11 nx33_6 fx33_6).get [0 + x164.toNat, 4]).ln &&
  Nat.beq 2 ((T.arr 11 nx33_6 fx33_6).get [0 + x164.toNat, 4]).wd) <|
   entK ok_delH ea_delH (f_delH) [(3, false, [C.tr true (T.arr 2 (fx33_6 (0 + x164.toNat) 4).ln ((T.arr 11 nx33_6 fx33_6).get [0 + x164.toNat, 4]).fn)]),
  (0, false, [C.fn 65 [Pt.pim 2 (pimF [T.int IntKind.i64 h.1, T.int IntKind.i64 h.2])]])] fun (r5 : List Hd) =>
   gd (decide (0 ≤ x164) && (x164.toNat.blt nx33_6 && true)) <|
   gd (r5.length.ble r5.length && true) <|
   gd ((0 + x164.toNat).blt nx33_6 && true && true) <|
   K .normal (st_iEagerGive_1 k m h w r1 r3 r4 (nx33_6) (setF (0 + x164.toNat) 4 (T.arr 2 r5.length (eL 2 Hd.cs r5).fn) (setF (0 + x164.toNat) 4 T.hole fx33_6)) (IntKind.i64.wrap (x164 + 1)))
  else
  K .normal (st_iEagerGive_1 k m h w r1 r3 r4 (nx33_6) (fx33_6) (IntKind.i64.wrap (x164 + 1)))
 else
 K (.exit 0) (ex_iEagerGive_1_1 k m h w r1 r3 r4 nx33_6 fx33_6 x164)) := by kernel_rfl
theorem post_iEagerGive_1_1 (k : Nat) (m : Ml) (h : Hd) (w : Bool) (r1 : Ml) (r3 : List Hd × List Int) (r4 : List Rm) (nx33_6 : Nat) (fx33_6 : Nat → Nat → T) (x164 : Int) (n : Nat) : contAt prog (tabS [(i_iModel, e_iModel), (i_iRsv, e_iRsv), (i_delR, e_delR), (i_delH, e_delH), (i_gat, e_gat k)]) kp_iEagerGive F_iEagerGive ts_iEagerGive [1, 1, 1, 1, 1, 0, 1, 0] [] n (.exit 0) (ex_iEagerGive_1_1 k m h w r1 r3 r4 nx33_6 fx33_6 x164) = (
 gd (r1.3.length.ble r1.3.length && true) <|
 gd ((0 + r3.2.length).ble r3.2.length) <|
 gd (((r1.3.length + r3.2.length) * 8).ble 70368744177664 &&
  (r1.3.length + r3.2.length).ble 70368744177664) <|
 gd ((r1.3.length + r3.2.length).ble (r1.3.length + r3.2.length) && true) <|
 gd (nx33_6.ble nx33_6 && true) <|
 gd ((r1.3.length + r3.2.length).ble (r1.3.length + r3.2.length) && true) <|
 gd (nx33_6.ble nx33_6 && true) <|
 gd ((r1.3.length + r3.2.length).ble (r1.3.length + r3.2.length) && true) <|
 some ([(true, [.tr true (T.int IntKind.i64 r1.c.1), .tr true (T.int IntKind.i64 r1.c.2), .tr true (T.int IntKind.i64 r1.c.3), .tr true (T.int IntKind.i64 r1.c.4), .tr true (T.int IntKind.i64 r1.c.5), .tr true (T.int IntKind.i64 r1.c.6), .tr true (.arr (11) (nx33_6) (fx33_6)), .tr true (.arr (1) (r1.3.length + r3.2.length) (appF r1.3.length (eL 1 rowI r1.3).fn (plainF (cutT 0 r3.2.length (atL rowI r3.2)))))]), (false, [.tr true (T.int IntKind.i64 0)])], [(false, []), (false, []), (false, [])])) := by kernel_rfl
theorem pre_iEagerGive (k : Nat) (m : Ml) (h : Hd) (w : Bool) (n : Nat) : body prog (tabS [(i_iModel, e_iModel), (i_iRsv, e_iRsv), (i_delR, e_delR), (i_delH, e_delH), (i_gat, e_gat k)]) kp_iEagerGive n F_iEagerGive [aR m.cs, aR h.cs, aB w] = (
 entK ok_iModel ea_iModel (f_iModel) [(0, true,
    [C.tr false (T.int IntKind.i64 m.c.1), C.tr false (T.int IntKind.i64 m.c.2),
      C.tr false (T.int IntKind.i64 m.c.3), C.tr false (T.int IntKind.i64 m.c.4),
      C.tr false (T.int IntKind.i64 m.c.5), C.tr false (T.int IntKind.i64 m.c.6), C.tr false (eL 11 Rm.cs m.2),
      C.tr false (eL 1 rowI m.3)])] fun (r1 : Ml) =>
 gd (r1.2.length.ble r1.2.length && true) <|
 gd (r1.3.length.ble r1.3.length && true) <|
 entK ok_iRsv ea_iRsv (f_iRsv) [(0, true,
    [C.tr false (T.int IntKind.i64 m.c.1), C.tr false (T.int IntKind.i64 m.c.2),
      C.tr false (T.int IntKind.i64 m.c.3), C.tr false (T.int IntKind.i64 m.c.4),
      C.tr false (T.int IntKind.i64 m.c.5), C.tr false (T.int IntKind.i64 m.c.6), C.tr false (eL 11 Rm.cs m.2),
      C.tr false (eL 1 rowI m.3)]),
  (0, true, [C.tr false (T.int IntKind.i64 h.1), C.tr false (T.int IntKind.i64 h.2)])] fun (r2 : Int × Int) =>
 bif r2.2 != 0 then
  gd (r1.2.length.ble r1.2.length && true) <|
  gd (r1.3.length.ble r1.3.length && true) <|
  gd (r1.2.length.ble r1.2.length && true) <|
  gd (r1.3.length.ble r1.3.length && true) <|
  some ([(true, [.tr true (T.int IntKind.i64 r1.c.1), .tr true (T.int IntKind.i64 r1.c.2), .tr true (T.int IntKind.i64 r1.c.3), .tr true (T.int IntKind.i64 r1.c.4), .tr true (T.int IntKind.i64 r1.c.5), .tr true (T.int IntKind.i64 r1.c.6), .tr true (.arr (11) (r1.2.length) ((eL 11 Rm.cs r1.2).fn)), .tr true (.arr (1) (r1.3.length) ((eL 1 rowI r1.3).fn))]), (false, [.tr true (T.int IntKind.i64 r2.2)])], [(false, []), (false, []), (false, [])])
 else
 entK (ok_gat k) ea_gat (f_gat k) [(0, true,
    [C.tr false (T.int IntKind.i64 m.c.1), C.tr false (T.int IntKind.i64 m.c.2),
      C.tr false (T.int IntKind.i64 m.c.3), C.tr false (T.int IntKind.i64 m.c.4),
      C.tr false (T.int IntKind.i64 m.c.5), C.tr false (T.int IntKind.i64 m.c.6), C.tr false (eL 11 Rm.cs m.2),
      C.tr false (eL 1 rowI m.3)]),
  (0, true, [C.tr false (T.int IntKind.i64 h.1), C.tr false (T.int IntKind.i64 h.2)]),
  (3, false, [C.tr true (T.arr 2 0 fun x x_1 => T.hole)]), (3, false, [C.tr true (T.arr 1 0 fun x x_1 => T.hole)])] fun (r3 : List Hd × List Int) =>
 gd (r3.1.length.ble r3.1.length && true) <|
 gd (r3.2.length.ble r3.2.length && true) <|
 gd (r1.2.length.ble r1.2.length && true) <|
 entK ok_delR ea_delR (f_delR) [(3, false, [C.tr true (T.arr 11 r1.2.length (eL 11 Rm.cs r1.2).fn)]),
  (0, false,
    [C.fn 62
        [Pt.pim 1 (pimF [T.arr 2 r3.1.length (eL 2 Hd.cs r3.1).fn]), Pt.pim 1 (pimF [T.bool w]),
          Pt.pim 2 (pimF [T.int IntKind.i64 h.1, T.int IntKind.i64 h.2])]])] fun (r4 : List Rm) =>
 gd (r4.length.ble r4.length && true) <|
 loopAt prog (tabS [(i_iModel, e_iModel), (i_iRsv, e_iRsv), (i_delR, e_delR), (i_delH, e_delH), (i_gat, e_gat k)]) kp_iEagerGive F_iEagerGive [1, 1, 1, 1, 1, 0, 1, 0] n n (st_iEagerGive_1 k m h w r1 r3 r4 (r4.length) ((eL 11 Rm.cs r4).fn) (0)) (contAt prog (tabS [(i_iModel, e_iModel), (i_iRsv, e_iRsv), (i_delR, e_delR), (i_delH, e_delH), (i_gat, e_gat k)]) kp_iEagerGive F_iEagerGive ts_iEagerGive [1, 1, 1, 1, 1, 0, 1, 0] [] n)) := by kernel_rfl
def i_sEagerGive : Nat := 13
noncomputable abbrev F_sEagerGive : Func := f13
def kp_sEagerGive : List (Nat × List Nat) := [(0, [8, 12, 13, 16, 17, 24, 25, 32, 33, 76, 112, 440]), (1, [8, 12, 13, 16, 17, 24, 25, 32, 33, 76, 112, 440]), (2, [8, 12, 13, 16, 17, 24, 25, 32, 33, 40, 76, 112, 440]), (3, [8, 12, 13, 16, 17, 24, 25, 32, 33, 40, 76, 108, 112, 440]), (4, [24, 25, 28, 32, 33, 76, 112, 440]), (5, [8, 16, 17, 24, 25, 32, 33, 44, 48, 76, 112, 440]), (6, [8, 16, 17, 24, 25, 32, 33, 44, 48, 52, 76, 112, 440]), (7, [8, 16, 17, 24, 25, 32, 33, 44, 48, 52, 56, 76, 112, 440]), (8, [8, 16, 17, 24, 25, 32, 33, 44, 48, 52, 56, 76, 112, 168, 224, 228, 240, 248, 260, 264, 440]), (9, [8, 16, 17, 24, 25, 32, 33, 44, 48, 52, 56, 76, 112, 440]), (10, [8, 16, 17, 24, 25, 32, 33, 44, 48, 52, 56, 60, 61, 76, 112, 180, 184, 188, 192, 196, 224, 228, 240, 248, 260, 264, 440]), (11, [8, 16, 17, 24, 25, 32, 33, 44, 48, 52, 56, 60, 61, 76, 112, 180, 184, 188, 192, 196, 200, 240, 248, 260, 264, 440]), (12, [8, 16, 17, 24, 25, 32, 33, 44, 48, 52, 56, 60, 61, 76, 112, 180, 184, 188, 192, 196, 240, 248, 260, 264, 440]), (13, [8, 16, 17, 24, 25, 32, 33, 44, 48, 52, 56, 60, 61, 76, 112, 180, 184, 188, 192, 196, 240, 248, 260, 264, 268, 440]), (14, [8, 16, 17, 24, 25, 32, 33, 44, 48, 52, 56, 60, 61, 76, 112, 180, 184, 188, 192, 196, 240, 248, 260, 264, 288, 440]), (15, [8, 16, 17, 24, 25, 32, 33, 44, 48, 52, 56, 60, 61, 64, 76, 112, 180, 184, 188, 192, 196, 240, 248, 260, 264, 440]), (16, [8, 16, 17, 24, 25, 32, 33, 44, 48, 52, 56, 60, 61, 64, 68, 76, 112, 180, 184, 188, 192, 196, 240, 248, 260, 264, 440]), (17, [8, 16, 17, 24, 25, 32, 33, 44, 48, 52, 56, 60, 61, 64, 68, 76, 112, 180, 184, 188, 192, 196, 240, 248, 260, 264, 316, 440]), (18, [8, 16, 17, 24, 25, 32, 33, 44, 48, 52, 56, 60, 61, 64, 68, 76, 112, 180, 184, 188, 192, 196, 240, 248, 260, 264, 440]), (19, [8, 16, 17, 24, 25, 32, 33, 44, 48, 52, 56, 60, 61, 64, 68, 76, 112, 180, 184, 188, 192, 196, 240, 248, 260, 264, 352, 440]), (20, [8, 16, 17, 24, 25, 32, 33, 44, 48, 52, 56, 60, 61, 64, 68, 76, 112, 180, 184, 188, 192, 196, 240, 248, 260, 264, 440]), (21, [8, 16, 17, 24, 25, 32, 33, 44, 48, 52, 56, 60, 61, 76, 112, 180, 184, 188, 192, 196, 240, 248, 260, 264, 440]), (22, [8, 16, 17, 24, 25, 32, 33, 44, 48, 52, 56, 76, 112, 440]), (23, [24, 25, 32, 33, 44, 76, 112, 440]), (24, [24, 25, 32, 33, 76, 112, 440]), (25, [24, 25, 28, 32, 33, 76, 112, 440])]
def ts_sEagerGive : List Nat := [0, 0, 0]
def st_sEagerGive_1 (k : Nat) (m : Ml) (h : Hd) (w : Bool) (r1 : Ml) (r3 : List Int × List Hd) (nx33_6 : Nat) (fx33_6 : Nat → Nat → T) (nx52 : Nat) (fx52 : Nat → Nat → T) (x56 : Int) : St := [(8, ⟨z0, [(false, [.tr true (T.bool w)])]⟩), (16, ⟨z0, [(false, [(C.pt (Pt.ptr 17 0 [] 2 0 0))])]⟩), (17, ⟨z0, [(true, [.tr true (T.int IntKind.i64 h.1), .tr true (T.int IntKind.i64 h.2)])]⟩), (24, ⟨z0, [(false, [(C.pt (Pt.ptr 25 0 [] 8 0 0))])]⟩), (25, ⟨z0, [(true, [.tr true (T.int IntKind.i64 0), .tr true (T.int IntKind.i64 0), .tr true (T.int IntKind.i64 0), .tr true (T.int IntKind.i64 0), .tr true (T.int IntKind.i64 0), .tr true (T.int IntKind.i64 0), .tr true (.arr (11) (0) (fun x x_1 => T.hole)), .tr true (.arr (1) (0) (fun x x_1 => T.hole))])]⟩), (32, ⟨z0, [(false, [(C.pt (Pt.ptr 33 0 [] 8 0 0))])]⟩), (33, ⟨z0, [(true, [.tr true (T.int IntKind.i64 r1.c.1), .tr true (T.int IntKind.i64 r1.c.2), .tr true (T.int IntKind.i64 r1.c.3), .tr true (T.int IntKind.i64 r1.c.4), .tr true (T.int IntKind.i64 r1.c.5), .tr true (T.int IntKind.i64 r1.c.6), .tr true (.arr (11) (nx33_6) (fx33_6)), .tr true (.arr (1) (r1.3.length) ((eL 1 rowI r1.3).fn))])]⟩), (44, ⟨z0, [(false, [.tr true (.arr (1) (r3.1.length) (atL rowI r3.1))])]⟩), (48, ⟨z0, [(false, [.tr true (.arr (2) (r3.2.length) ((eL 2 Hd.cs r3.2).fn))])]⟩), (52, ⟨z0, [(false, [.tr true (.arr (11) (nx52) (fx52))])]⟩), (56, ⟨z0, [(false, [.tr true (T.int IntKind.i64 x56)])]⟩), (76, ⟨z0, [(true, [.tr true (T.int IntKind.i64 r1.c.1), .tr true (T.int IntKind.i64 r1.c.2), .tr true (T.int IntKind.i64 r1.c.3), .tr true (T.int IntKind.i64 r1.c.4), .tr true (T.int IntKind.i64 r1.c.5), .tr true (T.int IntKind.i64 r1.c.6), .tr true (T.hole), .tr true (T.hole)])]⟩)]
def st_sEagerGive_2 (k : Nat) (m : Ml) (h : Hd) (w : Bool) (r1 : Ml) (r3 : List Int × List Hd) (nx33_6 : Nat) (fx33_6 : Nat → Nat → T) (nx52 : Nat) (fx52 : Nat → Nat → T) (x56 : Int) (nx64 : Nat) (fx64 : Nat → Nat → T) (x68 : Int) : St := [(8, ⟨z0, [(false, [.tr true (T.bool w)])]⟩), (16, ⟨z0, [(false, [(C.pt (Pt.ptr 17 0 [] 2 0 0))])]⟩), (17, ⟨z0, [(true, [.tr true (T.int IntKind.i64 h.1), .tr true (T.int IntKind.i64 h.2)])]⟩), (24, ⟨z0, [(false, [(C.pt (Pt.ptr 25 0 [] 8 0 0))])]⟩), (25, ⟨z0, [(true, [.tr true (T.int IntKind.i64 0), .tr true (T.int IntKind.i64 0), .tr true (T.int IntKind.i64 0), .tr true (T.int IntKind.i64 0), .tr true (T.int IntKind.i64 0), .tr true (T.int IntKind.i64 0), .tr true (.arr (11) (0) (fun x x_1 => T.hole)), .tr true (.arr (1) (0) (fun x x_1 => T.hole))])]⟩), (32, ⟨z0, [(false, [(C.pt (Pt.ptr 33 0 [] 8 0 0))])]⟩), (33, ⟨z0, [(true, [.tr true (T.int IntKind.i64 r1.c.1), .tr true (T.int IntKind.i64 r1.c.2), .tr true (T.int IntKind.i64 r1.c.3), .tr true (T.int IntKind.i64 r1.c.4), .tr true (T.int IntKind.i64 r1.c.5), .tr true (T.int IntKind.i64 r1.c.6), .tr true (.arr (11) (nx33_6) (fx33_6)), .tr true (.arr (1) (r1.3.length) ((eL 1 rowI r1.3).fn))])]⟩), (44, ⟨z0, [(false, [.tr true (.arr (1) (r3.1.length) (atL rowI r3.1))])]⟩), (48, ⟨z0, [(false, [.tr true (.arr (2) (r3.2.length) ((eL 2 Hd.cs r3.2).fn))])]⟩), (52, ⟨z0, [(false, [.tr true (.arr (11) (nx52) (fx52))])]⟩), (56, ⟨z0, [(false, [.tr true (T.int IntKind.i64 x56)])]⟩), (60, ⟨z0, [(false, [(C.pt (Pt.ptr 61 0 [] 11 0 0))])]⟩), (61, ⟨z0, [(true, [.tr true (T.int IntKind.i64 (fx33_6 (0 + x56.toNat) 0).toI), .tr true (T.int IntKind.i64 (fx33_6 (0 + x56.toNat) 1).toI), .tr true (T.int IntKind.i64 (fx33_6 (0 + x56.toNat) 2).toI), .tr true (T.int IntKind.i64 (fx33_6 (0 + x56.toNat) 3).toI), (C.ref 33 0 [0, 6, 0 + x56.toNat, 4] 2 0 (fx33_6 (0 + x56.toNat) 4).ln), .tr true (T.int IntKind.i64 (fx33_6 (0 + x56.toNat) 5).toI), .tr true (T.int IntKind.i64 (fx33_6 (0 + x56.toNat) 6).toI), .tr true (T.bool (fx33_6 (0 + x56.toNat) 7).toB), .tr true (T.int IntKind.i64 (fx33_6 (0 + x56.toNat) 8).toI), (C.ref 33 0 [0, 6, 0 + x56.toNat, 9] 1 0 (fx33_6 (0 + x56.toNat) 9).ln), (C.ref 33 0 [0, 6, 0 + x56.toNat, 10] 1 0 (fx33_6 (0 + x56.toNat) 10).ln)])]⟩), (64, ⟨z0, [(false, [.tr true (.arr (2) (nx64) (fx64))])]⟩), (68, ⟨z0, [(false, [.tr true (T.int IntKind.i64 x68)])]⟩), (76, ⟨z0, [(true, [.tr true (T.int IntKind.i64 r1.c.1), .tr true (T.int IntKind.i64 r1.c.2), .tr true (T.int IntKind.i64 r1.c.3), .tr true (T.int IntKind.i64 r1.c.4), .tr true (T.int IntKind.i64 r1.c.5), .tr true (T.int IntKind.i64 r1.c.6), .tr true (T.hole), .tr true (T.hole)])]⟩), (180, ⟨z0, [(false, [(C.pt (Pt.ptr 33 0 [] 8 0 6))])]⟩), (184, ⟨z0, [(false, [(C.ref 33 0 [0, 6] 11 0 nx33_6)])]⟩), (188, ⟨z0, [(false, [.tr true (T.int IntKind.i64 x56)])]⟩), (192, ⟨z0, [(false, [(C.pt (Pt.ptr 33 0 [0, 6] 11 (0 + x56.toNat) 0))])]⟩), (196, ⟨z0, [(true, [.tr true (T.int IntKind.i64 (fx33_6 (0 + x56.toNat) 0).toI), .tr true (T.int IntKind.i64 (fx33_6 (0 + x56.toNat) 1).toI), .tr true (T.int IntKind.i64 (fx33_6 (0 + x56.toNat) 2).toI), .tr true (T.int IntKind.i64 (fx33_6 (0 + x56.toNat) 3).toI), (C.ref 33 0 [0, 6, 0 + x56.toNat, 4] 2 0 (fx33_6 (0 + x56.toNat) 4).ln), .tr true (T.int IntKind.i64 (fx33_6 (0 + x56.toNat) 5).toI), .tr true (T.int IntKind.i64 (fx33_6 (0 + x56.toNat) 6).toI), .tr true (T.bool (fx33_6 (0 + x56.toNat) 7).toB), .tr true (T.int IntKind.i64 (fx33_6 (0 + x56.toNat) 8).toI), (C.ref 33 0 [0, 6, 0 + x56.toNat, 9] 1 0 (fx33_6 (0 + x56.toNat) 9).ln), (C.ref 33 0 [0, 6, 0 + x56.toNat, 10] 1 0 (fx33_6 (0 + x56.toNat) 10).ln)])]⟩)]
def ex_sEagerGive_2_1 (k : Nat) (m : Ml) (h : Hd) (w : Bool) (r1 : Ml) (r3 : List Int × List Hd) (nx33_6 : Nat) (fx33_6 : Nat → Nat → T) (nx52 : Nat) (fx52 : Nat → Nat → T) (x56 : Int) (nx64 : Nat) (fx64 : Nat → Nat → T) (x68 : Int) : St := [(8, ⟨z0, [(false, [.tr true (T.bool w)])]⟩), (16, ⟨z0, [(false, [(C.pt (Pt.ptr 17 0 [] 2 0 0))])]⟩), (17, ⟨z0, [(true, [.tr true (T.int IntKind.i64 h.1), .tr true (T.int IntKind.i64 h.2)])]⟩), (24, ⟨z0, [(false, [(C.pt (Pt.ptr 25 0 [] 8 0 0))])]⟩), (25, ⟨z0, [(true, [.tr true (T.int IntKind.i64 0), .tr true (T.int IntKind.i64 0), .tr true (T.int IntKind.i64 0), .tr true (T.int IntKind.i64 0), .tr true (T.int IntKind.i64 0), .tr true (T.int IntKind.i64 0), .tr true (.arr (11) (0) (fun x x_1 => T.hole)), .tr true (.arr (1) (0) (fun x x_1 => T.hole))])]⟩), (32, ⟨z0, [(false, [(C.pt (Pt.ptr 33 0 [] 8 0 0))])]⟩), (33, ⟨z0, [(true, [.tr true (T.int IntKind.i64 r1.c.1), .tr true (T.int IntKind.i64 r1.c.2), .tr true (T.int IntKind.i64 r1.c.3), .tr true (T.int IntKind.i64 r1.c.4), .tr true (T.int IntKind.i64 r1.c.5), .tr true (T.int IntKind.i64 r1.c.6), .tr true (.arr (11) (nx33_6) (fx33_6)), .tr true (.arr (1) (r1.3.length) ((eL 1 rowI r1.3).fn))])]⟩), (44, ⟨z0, [(false, [.tr true (.arr (1) (r3.1.length) (atL rowI r3.1))])]⟩), (48, ⟨z0, [(false, [.tr true (.arr (2) (r3.2.length) ((eL 2 Hd.cs r3.2).fn))])]⟩), (52, ⟨z0, [(false, [.tr true (.arr (11) (nx52) (fx52))])]⟩), (56, ⟨z0, [(false, [.tr true (T.int IntKind.i64 x56)])]⟩), (60, ⟨z0, [(false, [(C.pt (Pt.ptr 61 0 [] 11 0 0))])]⟩), (61, ⟨z0, [(true, [.tr true (T.int IntKind.i64 (fx33_6 (0 + x56.toNat) 0).toI), .tr true (T.int IntKind.i64 (fx33_6 (0 + x56.toNat) 1).toI), .tr true (T.int IntKind.i64 (fx33_6 (0 + x56.toNat) 2).toI), .tr true (T.int IntKind.i64 (fx33_6 (0 + x56.toNat) 3).toI), (C.ref 33 0 [0, 6, 0 + x56.toNat, 4] 2 0 (fx33_6 (0 + x56.toNat) 4).ln), .tr true (T.int IntKind.i64 (fx33_6 (0 + x56.toNat) 5).toI), .tr true (T.int IntKind.i64 (fx33_6 (0 + x56.toNat) 6).toI), .tr true (T.bool (fx33_6 (0 + x56.toNat) 7).toB), .tr true (T.int IntKind.i64 (fx33_6 (0 + x56.toNat) 8).toI), (C.ref 33 0 [0, 6, 0 + x56.toNat, 9] 1 0 (fx33_6 (0 + x56.toNat) 9).ln), (C.ref 33 0 [0, 6, 0 + x56.toNat, 10] 1 0 (fx33_6 (0 + x56.toNat) 10).ln)])]⟩), (64, ⟨z0, [(false, [.tr true (.arr (2) (nx64) (fx64))])]⟩), (68, ⟨z0, [(false, [.tr true (T.int IntKind.i64 x68)])]⟩), (76, ⟨z0, [(true, [.tr true (T.int IntKind.i64 r1.c.1), .tr true (T.int IntKind.i64 r1.c.2), .tr true (T.int IntKind.i64 r1.c.3), .tr true (T.int IntKind.i64 r1.c.4), .tr true (T.int IntKind.i64 r1.c.5), .tr true (T.int IntKind.i64 r1.c.6), .tr true (T.hole), .tr true (T.hole)])]⟩), (180, ⟨z0, [(false, [(C.pt (Pt.ptr 33 0 [] 8 0 6))])]⟩), (184, ⟨z0, [(false, [(C.ref 33 0 [0, 6] 11 0 nx33_6)])]⟩), (188, ⟨z0, [(false, [.tr true (T.int IntKind.i64 x56)])]⟩), (192, ⟨z0, [(false, [(C.pt (Pt.ptr 33 0 [0, 6] 11 (0 + x56.toNat) 0))])]⟩), (196, ⟨z0, [(true, [.tr true (T.int IntKind.i64 (fx33_6 (0 + x56.toNat) 0).toI), .tr true (T.int IntKind.i64 (fx33_6 (0 + x56.toNat) 1).toI), .tr true (T.int IntKind.i64 (fx33_6 (0 + x56.toNat) 2).toI), .tr true (T.int IntKind.i64 (fx33_6 (0 + x56.toNat) 3).toI), (C.ref 33 0 [0, 6, 0 + x56.toNat, 4] 2 0 (fx33_6 (0 + x56.toNat) 4).ln), .tr true (T.int IntKind.i64 (fx33_6 (0 + x56.toNat) 5).toI), .tr true (T.int IntKind.i64 (fx33_6 (0 + x56.toNat) 6).toI), .tr true (T.bool (fx33_6 (0 + x56.toNat) 7).toB), .tr true (T.int IntKind.i64 (fx33_6 (0 + x56.toNat) 8).toI), (C.ref 33 0 [0, 6, 0 + x56.toNat, 9] 1 0 (fx33_6 (0 + x56.toNat) 9).ln), (C.ref 33 0 [0, 6, 0 + x56.toNat, 10] 1 0 (fx33_6 (0 + x56.toNat) 10).ln)])]⟩), (316, ⟨z0, []⟩)]
theorem round_sEagerGive_2 (k : Nat) (m : Ml) (h : Hd) (w : Bool) (r1 : Ml) (r3 : List Int × List Hd) (nx33_6 : Nat) (fx33_6 : Nat → Nat → T) (nx52 : Nat) (fx52 : Nat → Nat → T) (x56 : Int) (nx64 : Nat) (fx64 : Nat → Nat → T) (x68 : Int) (n : Nat) (K : Ex → St → Res) : roundAt prog (tabS [(i_sModel, e_sModel), (i_sRsv, e_sRsv), (i_sHasH, e_sHasH), (i_told, e_told k)]) kp_sEagerGive F_sEagerGive [1, 1, 1, 1, 1, 1, 0, 1, 0, 0, 1, 0, 0, 1, 0, 0, 1, 1, 1, 1, 1, 0, 1, 0, 1, 0] n (st_sEagerGive_2 k m h w r1 r3 nx33_6 fx33_6 nx52 fx52 x56 nx64 fx64 x68) K = (
 bif decide (x68 < (↑(fx33_6 (0 + x56.toNat) 4).ln : Int)) then
  gd (decide (0 ≤ x68) && (x68.toNat.blt (fx33_6 (0 + x56.toNat) 4).ln && true)) <|
  gd ((0 + x56.toNat).blt nx33_6 && true && true && ((T.arr 11 nx33_6 fx33_6).get [0 + x56.toNat, 4]).isArr) <|
  gd (Nat.beq 2 ((T.arr 11 nx33_6 fx33_6).get [0 + x56.toNat, 4]).wd &&
    ((0 + x68.toNat).blt ((T.arr 11 nx33_6 fx33_6).get [0 + x56.toNat, 4]).ln && true) &&
  (T.isI IntKind.i64 (((T.arr 11 nx33_6 fx33_6).get [0 + x56.toNat, 4]).fn (0 + x68.toNat) 0) &&
    T.isI IntKind.i64 (((T.arr 11 nx33_6 fx33_6).get [0 + x56.toNat, 4]).fn (0 + x68.toNat) 1))) <|
  bif !bif (((T.arr 11 nx33_6 fx33_6).get [0 + x56.toNat, 4]).fn (0 + x68.toNat) 0).toI == h.1 then
    bif (((T.arr 11 nx33_6 fx33_6).get [0 + x56.toNat, 4]).fn (0 + x68.toNat) 1).toI == h.2 then true else false
  else false then
   gd (decide (0 ≤ x68) && (x68.toNat.blt (fx33_6 (0 + x56.toNat) 4).ln && true)) <|
   gd ((0 + x56.toNat).blt nx33_6 && true && true && ((T.arr 11 nx33_6 fx33_6).get [0 + x56.toNat, 4]).isArr) <|
   gd (Nat.beq 2 ((T.arr 11 nx33_6 fx33_6).get [0 + x56.toNat, 4]).wd &&
    ((0 + x68.toNat).blt ((T.arr 11 nx33_6 fx33_6).get [0 + x56.toNat, 4]).ln && true) &&
  (T.isI IntKind.i64 (((T.arr 11 nx33_6 fx33_6).get [0 + x56.toNat, 4]).fn (0 + x68.toNat) 0) &&
    T.isI IntKind.i64 (((T.arr 11 nx33_6 fx33_6).get [0 + x56.toNat, 4]).fn (0 + x68.toNat) 1))) <|
   gd (nx64.ble nx64 && true) <|
   gd (((nx64 + 1) * 16).ble 70368744177664 && (nx64 + 1).ble 70368744177664) <|
   gd ((nx64 + 1).ble (nx64 + 1) && true) <|
   K .normal (st_sEagerGive_2 k m h w r1 r3 nx33_6 fx33_6 nx52 fx52 x56 (nx64 + 1) (appF nx64 fx64
  (plainF
    (cutT 0 1
      (rowsT
        [[T.int IntKind.i64 (((T.arr 11 nx33_6 fx33_6).get [0 + x56.toNat, 4]).fn (0 + x68.toNat) 0).toI,
            T.int IntKind.i64 (((T.arr 11 nx33_6 fx33_6).get [0 + x56.toNat, 4]).fn (0 + x68.toNat) 1).toI]])))) (IntKind.i64.wrap (x68 + 1)))
  else
  K .normal (st_sEagerGive_2 k m h w r1 r3 nx33_6 fx33_6 nx52 fx52 x56 (nx64) (fx64) (IntKind.i64.wrap (x68 + 1)))
 else
 K (.exit 3) (ex_sEagerGive_2_1 k m h w r1 r3 nx33_6 fx33_6 nx52 fx52 x56 nx64 fx64 x68)) := by kernel_rfl
theorem post_sEagerGive_2_1 (k : Nat) (m : Ml) (h : Hd) (w : Bool) (r1 : Ml) (r3 : List Int × List Hd) (nx33_6 : Nat) (fx33_6 : Nat → Nat → T) (nx52 : Nat) (fx52 : Nat → Nat → T) (x56 : Int) (nx64 : Nat) (fx64 : Nat → Nat → T) (x68 : Int) (n : Nat) (K : Ex → St → Res) : contIn prog (tabS [(i_sModel, e_sModel), (i_sRsv, e_sRsv), (i_sHasH, e_sHasH), (i_told, e_told k)]) kp_sEagerGive F_sEagerGive [1, 1, 1, 1, 1, 1, 0, 1, 0] [1, 0, 0, 1, 0, 0, 1, 1, 1, 1, 1, 0, 1, 0, 1, 0] n K (.exit 3) (ex_sEagerGive_2_1 k m h w r1 r3 nx33_6 fx33_6 nx52 fx52 x56 nx64 fx64 x68) = (
 gd (nx64.ble nx64 && true) <|
 gd (nx64.ble nx64 && true) <|
 gd ((0 + x56.toNat).blt nx33_6 && true && true && ((T.arr 11 nx33_6 fx33_6).get [0 + x56.toNat, 9]).isArr) <|
 gd ((fx33_6 (0 + x56.toNat) 9).ln.ble ((T.arr 11 nx33_6 fx33_6).get [0 + x56.toNat, 9]).ln &&
  Nat.beq 1 ((T.arr 11 nx33_6 fx33_6).get [0 + x56.toNat, 9]).wd) <|
 gd ((0 + x56.toNat).blt nx33_6 && true && true &&
  ((T.arr 11 nx33_6 (setF (0 + x56.toNat) 9 T.hole fx33_6)).get [0 + x56.toNat, 10]).isArr) <|
 gd ((fx33_6 (0 + x56.toNat) 10).ln.ble
    ((T.arr 11 nx33_6 (setF (0 + x56.toNat) 9 T.hole fx33_6)).get [0 + x56.toNat, 10]).ln &&
  Nat.beq 1 ((T.arr 11 nx33_6 (setF (0 + x56.toNat) 9 T.hole fx33_6)).get [0 + x56.toNat, 10]).wd) <|
 gd (nx52.ble nx52 && true) <|
 gd (((nx52 + 1) * 136).ble 70368744177664 && (nx52 + 1).ble 70368744177664) <|
 gd ((nx52 + 1).ble (nx52 + 1) && true) <|
 K .normal (st_sEagerGive_1 k m h w r1 r3 (nx33_6) (setF (0 + x56.toNat) 10 T.hole (setF (0 + x56.toNat) 9 T.hole fx33_6)) (nx52 + 1) (appF nx52 fx52
  (rowsT
    [[T.int IntKind.i64 (fx33_6 (0 + x56.toNat) 0).toI, T.int IntKind.i64 (fx33_6 (0 + x56.toNat) 1).toI,
        T.int IntKind.i64 (fx33_6 (0 + x56.toNat) 2).toI, T.int IntKind.i64 (fx33_6 (0 + x56.toNat) 3).toI,
        T.arr 2 nx64 fx64, T.int IntKind.i64 (fx33_6 (0 + x56.toNat) 5).toI,
        T.int IntKind.i64 (fx33_6 (0 + x56.toNat) 6).toI, T.bool (fx33_6 (0 + x56.toNat) 7).toB,
        T.int IntKind.i64 (fx33_6 (0 + x56.toNat) 8).toI,
        T.arr 1 (fx33_6 (0 + x56.toNat) 9).ln ((T.arr 11 nx33_6 fx33_6).get [0 + x56.toNat, 9]).fn,
        T.arr 1 (fx33_6 (0 + x56.toNat) 10).ln
          ((T.arr 11 nx33_6 (setF (0 + x56.toNat) 9 T.hole fx33_6)).get [0 + x56.toNat, 10]).fn]])) (IntKind.i64.wrap (x56 + 1)))) := by kernel_rfl
def ex_sEagerGive_1_1 (k : Nat) (m : Ml) (h : Hd) (w : Bool) (r1 : Ml) (r3 : List Int × List Hd) (nx33_6 : Nat) (fx33_6 : Nat → Nat → T) (nx52 : Nat) (fx52 : Nat → Nat → T) (x56 : Int) : St := [(8, ⟨z0, [(false, [.tr true (T.bool w)])]⟩), (16, ⟨z0, [(false, [(C.pt (Pt.ptr 17 0 [] 2 0 0))])]⟩), (17, ⟨z0, [(true, [.tr true (T.int IntKind.i64 h.1), .tr true (T.int IntKind.i64 h.2)])]⟩), (24, ⟨z0, [(false, [(C.pt (Pt.ptr 25 0 [] 8 0 0))])]⟩), (25, ⟨z0, [(true, [.tr true (T.int IntKind.i64 0), .tr true (T.int IntKind.i64 0), .tr true (T.int IntKind.i64 0), .tr true (T.int IntKind.i64 0), .tr true (T.int IntKind.i64 0), .tr true (T.int IntKind.i64 0), .tr true (.arr (11) (0) (fun x x_1 => T.hole)), .tr true (.arr (1) (0) (fun x x_1 => T.hole))])]⟩), (32, ⟨z0, [(false, [(C.pt (Pt.ptr 33 0 [] 8 0 0))])]⟩), (33, ⟨z0, [(true, [.tr true (T.int IntKind.i64 r1.c.1), .tr true (T.int IntKind.i64 r1.c.2), .tr true (T.int IntKind.i64 r1.c.3), .tr true (T.int IntKind.i64 r1.c.4), .tr true (T.int IntKind.i64 r1.c.5), .tr true (T.int IntKind.i64 r1.c.6), .tr true (.arr (11) (nx33_6) (fx33_6)), .tr true (.arr (1) (r1.3.length) ((eL 1 rowI r1.3).fn))])]⟩), (44, ⟨z0, [(false, [.tr true (.arr (1) (r3.1.length) (atL rowI r3.1))])]⟩), (48, ⟨z0, [(false, [.tr true (.arr (2) (r3.2.length) ((eL 2 Hd.cs r3.2).fn))])]⟩), (52, ⟨z0, [(false, [.tr true (.arr (11) (nx52) (fx52))])]⟩), (56, ⟨z0, [(false, [.tr true (T.int IntKind.i64 x56)])]⟩), (76, ⟨z0, [(true, [.tr true (T.int IntKind.i64 r1.c.1), .tr true (T.int IntKind.i64 r1.c.2), .tr true (T.int IntKind.i64 r1.c.3), .tr true (T.int IntKind.i64 r1.c.4), .tr true (T.int IntKind.i64 r1.c.5), .tr true (T.int IntKind.i64 r1.c.6), .tr true (T.hole), .tr true (T.hole)])]⟩), (168, ⟨z0, []⟩)]
theorem round_sEagerGive_1 (k : Nat) (m : Ml) (h : Hd) (w : Bool) (r1 : Ml) (r3 : List Int × List Hd) (nx33_6 : Nat) (fx33_6 : Nat → Nat → T) (nx52 : Nat) (fx52 : Nat → Nat → T) (x56 : Int) (n : Nat) (K : Ex → St → Res) : roundAt prog (tabS [(i_sModel, e_sModel), (i_sRsv, e_sRsv), (i_sHasH, e_sHasH), (i_told, e_told k)]) kp_sEagerGive F_sEagerGive [1, 1, 1, 1, 1, 1, 0, 1, 0] n (st_sEagerGive_1 k m h w r1 r3 nx33_6 fx33_6 nx52 fx52 x56) K = (
 bif decide (x56 < (↑nx33_6 : Int)) then
  gd (decide (0 ≤ x56) && (x56.toNat.blt nx33_6 && true)) <|
  gd ((0 + x56.toNat).blt nx33_6 && true &&
  (T.isI IntKind.i64 (fx33_6 (0 + x56.toNat) 0) && T.isI IntKind.i64 (fx33_6 (0 + x56.toNat) 1) &&
                    T.isI IntKind.i64 (fx33_6 (0 + x56.toNat) 2) &&
                  T.isI IntKind.i64 (fx33_6 (0 + x56.toNat) 3) &&
                ((fx33_6 (0 + x56.toNat) 4).isArr && (fx33_6 (0 + x56.toNat) 4).wd.beq 2) &&
              T.isI IntKind.i64 (fx33_6 (0 + x56.toNat) 5) &&
            T.isI IntKind.i64 (fx33_6 (0 + x56.toNat) 6) &&
          (fx33_6 (0 + x56.toNat) 7).isB &&
        T.isI IntKind.i64 (fx33_6 (0 + x56.toNat) 8) &&
      ((fx33_6 (0 + x56.toNat) 9).isArr && (fx33_6 (0 + x56.toNat) 9).wd.beq 1) &&
    ((fx33_6 (0 + x56.toNat) 10).isArr && (fx33_6 (0 + x56.toNat) 10).wd.beq 1))) <|
  bif bif (fx33_6 (0 + x56.toNat) 0).toI == h.1 then bif (fx33_6 (0 + x56.toNat) 1).toI == h.2 then true else false
else false then
   bif !w then
    gd (nx52.ble nx52 && true) <|
    gd (((nx52 + 1) * 136).ble 70368744177664 && (nx52 + 1).ble 70368744177664) <|
    gd ((nx52 + 1).ble (nx52 + 1) && true) <|
    K .normal (st_sEagerGive_1 k m h w r1 r3 (nx33_6) (fx33_6) (nx52 + 1) (appF nx52 fx52
  (rowsT
    [[T.int IntKind.i64 (fx33_6 (0 + x56.toNat) 0).toI, T.int IntKind.i64 (fx33_6 (0 + x56.toNat) 1).toI,
        T.int IntKind.i64 (fx33_6 (0 + x56.toNat) 2).toI, T.int IntKind.i64 (fx33_6 (0 + x56.toNat) 3).toI,
        T.arr 2 0 fun x x_1 => T.hole, T.int IntKind.i64 (IntKind.i64.wrap ((fx33_6 (0 + x56.toNat) 5).toI + 1)),
        T.int IntKind.i64 0, T.bool false, T.int IntKind.i64 0, T.arr 1 0 fun x x_1 => T.hole,
        T.arr 1 0 fun x x_1 => T.hole]])) (IntKind.i64.wrap (x56 + 1)))
   else
   gd ((0 + r3.2.length).ble r3.2.length) <|
   entK ok_sHasH ea_sHasH (f_sHasH) [(0, false, [C.tr false (T.arr 2 r3.2.length (cutT 0 r3.2.length (eL 2 Hd.cs r3.2).fn))]),
  (0, true,
    [C.tr false (T.int IntKind.i64 (fx33_6 (0 + x56.toNat) 0).toI),
      C.tr false (T.int IntKind.i64 (fx33_6 (0 + x56.toNat) 1).toI)])] fun (r4 : Bool) =>
   bif r4 then
    K .normal (st_sEagerGive_1 k m h w r1 r3 (nx33_6) (fx33_6) (nx52) (fx52) (IntKind.i64.wrap (x56 + 1)))
   else
   bif w then
    loopAt prog (tabS [(i_sModel, e_sModel), (i_sRsv, e_sRsv), (i_sHasH, e_sHasH), (i_told, e_told k)]) kp_sEagerGive F_sEagerGive [1, 1, 1, 1, 1, 1, 0, 1, 0, 0, 1, 0, 0, 1, 0, 0, 1, 1, 1, 1, 1, 0, 1, 0, 1, 0] n n (st_sEagerGive_2 k m h w r1 r3 nx33_6 fx33_6 nx52 fx52 x56 (0) (rowsT []) (0)) (contIn prog (tabS [(i_sModel, e_sModel), (i_sRsv, e_sRsv), (i_sHasH, e_sHasH), (i_told, e_told k)]) kp_sEagerGive F_sEagerGive [1, 1, 1, 1, 1, 1, 0, 1, 0] [1, 0, 0, 1, 0, 0, 1, 1, 1, 1, 1, 0, 1, 0, 1, 0] n K)
   else
   gd ((0 + x56.toNat).blt nx33_6 && true && true && ((T.arr 11 nx33_6 fx33_6).get [0 + x56.toNat, 4]).isArr) <|
   gd ((fx33_6 (0 + x56.toNat) 4).ln.ble ((T.arr 11 nx33_6 fx33_6).get [0 + x56.toNat, 4]).ln &&
  Nat.beq 2 ((T.arr 11 nx33_6 fx33_6).get [0 + x56.toNat, 4]).wd) <|
   gd ((0 + x56.toNat).blt nx33_6 && true && true &&
  ((T.arr 11 nx33_6 (setF (0 + x56.toNat) 4 T.hole fx33_6)).get [0 + x56.toNat, 9]).isArr) <|
   gd ((fx33_6 (0 + x56.toNat) 9).ln.ble
    ((T.arr 11 nx33_6 (setF (0 + x56.toNat) 4 T.hole fx33_6)).get [0 + x56.toNat, 9]).ln &&
  Nat.beq 1 ((T.arr 11 nx33_6 (setF (0 + x56.toNat) 4 T.hole fx33_6)).get [0 + x56.toNat, 9]).wd) <|
   gd ((0 + x56.toNat).blt nx33_6 && true && true &&
  ((T.arr 11 nx33_6 (setF (0 + x56.toNat) 9 T.hole (setF (0 + x56.toNat) 4 T.hole fx33_6))).get
      [0 + x56.toNat, 10]).isArr) <|
   gd ((fx33_6 (0 + x56.toNat) 10).ln.ble
    ((T.arr 11 nx33_6 (setF (0 + x56.toNat) 9 T.hole (setF (0 + x56.toNat) 4 T.hole fx33_6))).get
        [0 + x56.toNat, 10]).ln &&
  Nat.beq 1
    ((T.arr 11 nx33_6 (setF (0 + x56.toNat) 9 T.hole (setF (0 + x56.toNat) 4 T.hole fx33_6))).get
        [0 + x56.toNat, 10]).wd) <|
   gd (nx52.ble nx52 && true) <|
   gd (((nx52 + 1) * 136).ble 70368744177664 && (nx52 + 1).ble 70368744177664) <|
   gd ((nx52 + 1).ble (nx52 + 1) && true) <|
   K .normal (st_sEagerGive_1 k m h w r1 r3 (nx33_6) (setF (0 + x56.toNat) 10 T.hole (setF (0 + x56.toNat) 9 T.hole (setF (0 + x56.toNat) 4 T.hole fx33_6))) (nx52 + 1) (appF nx52 fx52
  (rowsT
    [[T.int IntKind.i64 (fx33_6 (0 + x56.toNat) 0).toI, T.int IntKind.i64 (fx33_6 (0 + x56.toNat) 1).toI,
        T.int IntKind.i64 (fx33_6 (0 + x56.toNat) 2).toI, T.int IntKind.i64 (fx33_6 (0 + x56.toNat) 3).toI,
        T.arr 2 (fx33_6 (0 + x56.toNat) 4).ln ((T.arr 11 nx33_6 fx33_6).get [0 + x56.toNat, 4]).fn,
        T.int IntKind.i64 (fx33_6 (0 + x56.toNat) 5).toI, T.int IntKind.i64 (fx33_6 (0 + x56.toNat) 6).toI,
        T.bool (fx33_6 (0 + x56.toNat) 7).toB, T.int IntKind.i64 (fx33_6 (0 + x56.toNat) 8).toI,
        T.arr 1 (fx33_6 (0 + x56.toNat) 9).ln
          ((T.arr 11 nx33_6 (setF (0 + x56.toNat) 4 T.hole fx33_6)).get [0 + x56.toNat, 9]).fn,
        T.arr 1 (fx33_6 (0 + x56.toNat) 10).ln
          ((T.arr 11 nx33_6 (setF (0 + x56.toNat) 9 T.hole (setF (0 + x56.toNat) 4 T.hole fx33_6))).get
              [0 + x56.toNat, 10]).fn]])) (IntKind.i64.wrap (x56 + 1)))
  else
  gd ((0 + r3.2.length).ble r3.2.length) <|
  entK ok_sHasH ea_sHasH (f_sHasH) [(0, false, [C.tr false (T.arr 2 r3.2.length (cutT 0 r3.2.length (eL 2 Hd.cs r3.2).fn))]),
  (0, true,
    [C.tr false (T.int IntKind.i64 (fx33_6 (0 + x56.toNat) 0).toI),
      C.tr false (T.int IntKind.i64 (fx33_6 (0 + x56.toNat) 1).toI)])] fun (r5 : Bool) =>
  bif r5 then
   K .normal (st_sEagerGive_1 k m h w r1 r3 (nx33_6) (fx33_6) (nx52) (fx52) (IntKind.i64.wrap (x56 + 1)))
  else
  bif w then
   loopAt prog (tabS [(i_sModel, e_sModel), (i_sRsv, e_sRsv), (i_sHasH, e_sHasH), (i_told, e_told k)]) kp_sEagerGive F_sEagerGive [1, 1, 1, 1, 1, 1, 0, 1, 0, 0, 1, 0, 0, 1, 0, 0, 1, 1, 1, 1, 1, 0, 1, 0, 1, 0] n n (st_sEagerGive_2 k m h w r1 r3 nx33_6 fx33_6 nx52 fx52 x56 (0) (rowsT []) (0)) (contIn prog (tabS [(i_sModel, e_sModel), (i_sRsv, e_sRsv), (i_sHasH, e_sHasH), (i_told, e_told k)]) kp_sEagerGive F_sEagerGive [1, 1, 1, 1, 1, 1, 0, 1, 0] [1, 0, 0, 1, 0, 0, 1, 1, 1, 1, 1, 0, 1, 0, 1, 0] n K)
  else
  gd ((0 + x56.toNat).blt nx33_6 && true && true && ((T.arr 11 nx33_6 fx33_6).get [0 + x56.toNat, 4]).isArr) <|
  gd ((fx33_6 (0 + x56.toNat) 4).ln.ble ((T.arr 11 nx33_6 fx33_6).get [0 + x56.toNat, 4]).ln &&
  Nat.beq 2 ((T.arr 11 nx33_6 fx33_6).get [0 + x56.toNat, 4]).wd) <|
  gd ((0 + x56.toNat).blt nx33_6 && true && true &&
  ((T.arr 11 nx33_6 (setF (0 + x56.toNat) 4 T.hole fx33_6)).get [0 + x56.toNat, 9]).isArr) <|
  gd ((fx33_6 (0 + x56.toNat) 9).ln.ble
    ((T.arr 11 nx33_6 (setF (0 + x56.toNat) 4 T.hole fx33_6)).get [0 + x56.toNat, 9]).ln &&
  Nat.beq 1 ((T.arr 11 nx33_6 (setF (0 + x56.toNat) 4 T.hole fx33_6)).get [0 + x56.toNat, 9]).wd) <|
  gd ((0 + x56.toNat).blt nx33_6 && true && true &&
  ((T.arr 11 nx33_6 (setF (0 + x56.toNat) 9 T.hole (setF (0 + x56.toNat) 4 T.hole fx33_6))).get
      [0 + x56.toNat, 10]).isArr) <|
  gd ((fx33_6 (0 + x56.toNat) 10).ln.ble
    ((T.arr 11 nx33_6 (setF (0 + x56.toNat) 9 T.hole (setF (0 + x56.toNat) 4 T.hole fx33_6))).get
        [0 + x56.toNat, 10]).ln &&
  Nat.beq 1
    ((T.arr 11 nx33_6 (setF (0 + x56.toNat) 9 T.hole (setF (0 + x56.toNat) 4 T.hole fx33_6))).get
        [0 + x56.toNat, 10]).wd) <|
  gd (nx52.ble nx52 && true) <|
  gd (((nx52 + 1) * 136).ble 70368744177664 && (nx52 + 1).ble 70368744177664) <|
  gd ((nx52 + 1).ble (nx52 + 1) && true) <|
  K .normal (st_sEagerGive_1 k m h w r1 r3 (nx33_6) (setF (0 + x56.toNat) 10 T.hole (setF (0 + x56.toNat) 9 T.hole (setF (0 + x56.toNat) 4 T.hole fx33_6))) (nx52 + 1) (appF nx52 fx52
  (rowsT
    [[T.int IntKind.i64 (fx33_6 (0 + x56.toNat) 0).toI, T.int IntKind.i64 (fx33_6 (0 + x56.toNat) 1).toI,
        T.int IntKind.i64 (fx33_6 (0 + x56.toNat) 2).toI, T.int IntKind.i64 (fx33_6 (0 + x56.toNat) 3).toI,
        T.arr 2 (fx33_6 (0 + x56.toNat) 4).ln ((T.arr 11 nx33_6 fx33_6).get [0 + x56.toNat, 4]).fn,
        T.int IntKind.i64 (fx33_6 (0 + x56.toNat) 5).toI, T.int IntKind.i64 (fx33_6 (0 + x56.toNat) 6).toI,
        T.bool (fx33_6 (0 + x56.toNat) 7).toB, T.int IntKind.i64 (fx33_6 (0 + x56.toNat) 8).toI,
        T.arr 1 (fx33_6 (0 + x56.toNat) 9).ln
          ((T.arr 11 nx33_6 (setF (0 + x56.toNat) 4 T.hole fx33_6)).get [0 + x56.toNat, 9]).fn,
        T.arr 1 (fx33_6 (0 + x56.toNat) 10).ln
          ((T.arr 11 nx33_6 (setF (0 + x56.toNat) 9 T.hole (setF (0 + x56.toNat) 4 T.hole fx33_6))).get
              [0 + x56.toNat, 10]).fn]])) (IntKind.i64.wrap (x56 + 1)))
 else
 K (.exit 0) (ex_sEagerGive_1_1 k m h w r1 r3 nx33_6 fx33_6 nx52 fx52 x56)) := by kernel_rfl
theorem post_sEagerGive_1_1 (k : Nat) (m : Ml) (h : Hd) (w : Bool) (r1 : Ml) (r3 : List Int × List Hd) (nx33_6 : Nat) (fx33_6 : Nat → Nat → T) (nx52 : Nat) (fx52 : Nat → Nat → T) (x56 : Int) (n : Nat) : contAt prog (tabS [(i_sModel, e_sModel), (i_sRsv, e_sRsv), (i_sHasH, e_sHasH), (i_told, e_told k)]) kp_sEagerGive F_sEagerGive ts_sEagerGive [1, 1, 1, 1, 1, 1, 0, 1, 0] [] n (.exit 0) (ex_sEagerGive_1_1 k m h w r1 r3 nx33_6 fx33_6 nx52 fx52 x56) = (
 gd (nx52.ble nx52 && true) <|
 gd (r1.3.length.ble r1.3.length && true) <|
 gd ((0 + r3.1.length).ble r3.1.length) <|
 gd (((r1.3.length + r3.1.length) * 8).ble 70368744177664 &&
  (r1.3.length + r3.1.length).ble 70368744177664) <|
 gd ((r1.3.length + r3.1.length).ble (r1.3.length + r3.1.length) && true) <|
 gd (nx52.ble nx52 && true) <|
 gd ((r1.3.length + r3.1.length).ble (r1.3.length + r3.1.length) && true) <|
 gd (nx52.ble nx52 && true) <|
 gd ((r1.3.length + r3.1.length).ble (r1.3.length + r3.1.length) && true) <|
 some ([(true, [.tr true (T.int IntKind.i64 r1.c.1), .tr true (T.int IntKind.i64 r1.c.2), .tr true (T.int IntKind.i64 r1.c.3), .tr true (T.int IntKind.i64 r1.c.4), .tr true (T.int IntKind.i64 r1.c.5), .tr true (T.int IntKind.i64 r1.c.6), .tr true (.arr (11) (nx52) (fx52)), .tr true (.arr (1) (r1.3.length + r3.1.length) (appF r1.3.length (eL 1 rowI r1.3).fn (plainF (cutT 0 r3.1.length (atL rowI r3.1)))))]), (false, [.tr true (T.int IntKind.i64 0)])], [(false, []), (false, []), (false, [])])) := by kernel_rfl
theorem pre_sEagerGive (k : Nat) (m : Ml) (h : Hd) (w : Bool) (n : Nat) : body prog (tabS [(i_sModel, e_sModel), (i_sRsv, e_sRsv), (i_sHasH, e_sHasH), (i_told, e_told k)]) kp_sEagerGive n F_sEagerGive [aR m.cs, aR h.cs, aB w] = (
 entK ok_sModel ea_sModel (f_sModel) [(0, true,
    [C.tr false (T.int IntKind.i64 m.c.1), C.tr false (T.int IntKind.i64 m.c.2),
      C.tr false (T.int IntKind.i64 m.c.3), C.tr false (T.int IntKind.i64 m.c.4),
      C.tr false (T.int IntKind.i64 m.c.5), C.tr false (T.int IntKind.i64 m.c.6), C.tr false (eL 11 Rm.cs m.2),
      C.tr false (eL 1 rowI m.3)])] fun (r1 : Ml) =>
 gd (r1.2.length.ble r1.2.length && true) <|
 gd (r1.3.length.ble r1.3.length && true) <|
 entK ok_sRsv ea_sRsv (f_sRsv) [(0, true,
    [C.tr false (T.int IntKind.i64 m.c.1), C.tr false (T.int IntKind.i64 m.c.2),
      C.tr false (T.int IntKind.i64 m.c.3), C.tr false (T.int IntKind.i64 m.c.4),
      C.tr false (T.int IntKind.i64 m.c.5), C.tr false (T.int IntKind.i64 m.c.6), C.tr false (eL 11 Rm.cs m.2),
      C.tr false (eL 1 rowI m.3)]),
  (0, true, [C.tr false (T.int IntKind.i64 h.1), C.tr false (T.int IntKind.i64 h.2)])] fun (r2 : Int × Int) =>
 bif r2.2 != 0 then
  gd (r1.2.length.ble r1.2.length && true) <|
  gd (r1.3.length.ble r1.3.length && true) <|
  gd (r1.2.length.ble r1.2.length && true) <|
  gd (r1.3.length.ble r1.3.length && true) <|
  some ([(true, [.tr true (T.int IntKind.i64 r1.c.1), .tr true (T.int IntKind.i64 r1.c.2), .tr true (T.int IntKind.i64 r1.c.3), .tr true (T.int IntKind.i64 r1.c.4), .tr true (T.int IntKind.i64 r1.c.5), .tr true (T.int IntKind.i64 r1.c.6), .tr true (.arr (11) (r1.2.length) ((eL 11 Rm.cs r1.2).fn)), .tr true (.arr (1) (r1.3.length) ((eL 1 rowI r1.3).fn))]), (false, [.tr true (T.int IntKind.i64 r2.2)])], [(false, []), (false, []), (false, [])])
 else
 entK (ok_told k) ea_told (f_told k) [(0, true,
    [C.tr false (T.int IntKind.i64 m.c.1), C.tr false (T.int IntKind.i64 m.c.2),
      C.tr false (T.int IntKind.i64 m.c.3), C.tr false (T.int IntKind.i64 m.c.4),
      C.tr false (T.int IntKind.i64 m.c.5), C.tr false (T.int IntKind.i64 m.c.6), C.tr false (eL 11 Rm.cs m.2),
      C.tr false (eL 1 rowI m.3)]),
  (0, true, [C.tr false (T.int IntKind.i64 h.1), C.tr false (T.int IntKind.i64 h.2)]),
  (3, false, [C.tr true (T.arr 2 0 (rowsT []))])] fun (r3 : List Int × List Hd) =>
 gd (r3.1.length.ble r3.1.length && true) <|
 gd (r3.2.length.ble r3.2.length && true) <|
 loopAt prog (tabS [(i_sModel, e_sModel), (i_sRsv, e_sRsv), (i_sHasH, e_sHasH), (i_told, e_told k)]) kp_sEagerGive F_sEagerGive [1, 1, 1, 1, 1, 1, 0, 1, 0] n n (st_sEagerGive_1 k m h w r1 r3 (r1.2.length) ((eL 11 Rm.cs r1.2).fn) (0) (rowsT []) (0)) (contAt prog (tabS [(i_sModel, e_sModel), (i_sRsv, e_sRsv), (i_sHasH, e_sHasH), (i_told, e_told k)]) kp_sEagerGive F_sEagerGive ts_sEagerGive [1, 1, 1, 1, 1, 1, 0, 1, 0] [] n)) := by kernel_rfl
end Go.Mach.F
namespace Go.Mach.F
open Go Go.Mach Go.Proofs.Try
/-- A list of which the first elements are turned. -/
def gvA {α : Type} (g : α → α) (l : List α) (i : Nat) : List α := (l.take i).map g ++ l.drop i
theorem gvA_get {α : Type} (g : α → α) {l : List α} {i : Nat} (h : i < l.length) : (gvA g l i)[i]? = l[i]? := by
  unfold gvA
  have hl : ((l.take i).map g).length = i := by rw [List.length_map, List.length_take]; omega
  rw [List.getElem?_append_right (by omega), hl, List.getElem?_drop, Nat.sub_self, Nat.add_zero]
theorem gvA_end {α : Type} (g : α → α) (l : List α) : gvA g l l.length = l.map g := by
  unfold gvA
  rw [List.take_length, List.drop_length, List.append_nil]
theorem gvA_next {α : Type} (g : α → α) {l : List α} {i : Nat} {x : α} (hx : l[i]? = some x) : gvA g l (i + 1) = (gvA g l i).set i (g x) := by
  have h := (List.getElem?_eq_some_iff.1 hx).1
  have hl : ((l.take i).map g).length = i := by rw [List.length_map, List.length_take]; omega
  have e := (List.getElem?_eq_some_iff.1 hx).2
  unfold gvA
  rw [List.take_add_one, hx, List.map_append, List.append_assoc, List.set_append_right _ _ (by omega), hl, Nat.sub_self, List.drop_eq_getElem_cons h, e]
  rfl
theorem set_same {α : Type} {l : List α} {i : Nat} {x : α} (h : l[i]? = some x) : l.set i x = l := by
  obtain ⟨h1, h2⟩ := List.getElem?_eq_some_iff.1 h
  rw [← h2]
  exact List.set_getElem_self h1
theorem ptF_list {l : List Rm} {i : Nat} {x y : Rm} (hy : l[i]? = some y) : ptF (atL Rm.cs l) i x = atL Rm.cs (l.set i x) := by
  funext j k
  by_cases h : j = i
  · subst h
    rw [atL_of (set_getH (y := x) hy)]
    by_cases hk : k < 11
    · rw [ptF_at hk]
    · unfold ptF
      simp only [setF_d2, beqF (show k ≠ 10 by omega), beqF (show k ≠ 9 by omega), beqF (show k ≠ 8 by omega), beqF (show k ≠ 7 by omega), beqF (show k ≠ 6 by omega), beqF (show k ≠ 5 by omega), beqF (show k ≠ 4 by omega), beqF (show k ≠ 3 by omega), beqF (show k ≠ 2 by omega), beqF (show k ≠ 1 by omega), beqF (show k ≠ 0 by omega), cond_false]
      rw [atL_of hy, List.getD_eq_getElem?_getD, List.getD_eq_getElem?_getD, List.getElem?_eq_none (by show 11 ≤ k; omega), List.getElem?_eq_none (by show 11 ≤ k; omega)]
  · rw [ptF_off h]
    unfold atL
    rw [List.getElem?_set_ne (Ne.symm h)]
theorem givR_at {h : Hd} {w : Bool} {r : Rm} (e : r.h = h) : givR h w r = ⟨h, r.up, [], IntKind.i64.wrap (r.ep + 1), 0, false, 0, [], []⟩ := by
  unfold givR
  rw [decide_eq_true e, e]
  rfl
theorem givR_off {h : Hd} {w : Bool} {r : Rm} (e : ¬ r.h = h) : givR h w r = bif w then { r with kids := r.kids.filter (fun y => !decide (y = h)) } else r := by
  unfold givR
  rw [decide_eq_false e]
  rfl
theorem hd_cond (x h : Hd) : (bif x.slot == h.slot then bif x.gen == h.gen then true else false else false) = decide (x = h) := by
  rw [cond_bf, cond_tf, int_eq, int_eq, dec_and, hd_e1]
  exact decide_eq_decide.2 (by simp)
theorem body_iEagerGive (m : Ml) (h : Hd) (w : Bool) (h0 : ok_iEagerGive (m, h, w)) : body prog (tabS [(i_iModel, e_iModel), (i_iRsv, e_iRsv), (i_delR, e_delR), (i_delH, e_delH), (i_gat, e_gat (givN m))]) kp_iEagerGive (m.rooms.length + 1) F_iEagerGive (ea_iEagerGive (m, h, w)) = some ([oR (f_iEagerGive (m, h, w)).1.cs, oT (.int .i64 (f_iEagerGive (m, h, w)).2)], [nul, nul, nul]) := by
  have hlm := lm
  obtain ⟨⟨h1, h2⟩, h3, h4⟩ : (ok_RmS m.rooms ∧ ok_LI m.log) ∧ (allK m.rooms).length < LM ∧ cntL (fun r => r.tags.length) m.rooms ≤ LM := ⟨⟨h0.1, h0.2.1⟩, h0.2.2.1, h0.2.2.2⟩
  have hl : m.rooms.length ≤ LM := h1.1
  have hlog : m.log.length ≤ LM := h2
  have c0 : ok_iModel m := ⟨h1, h2⟩
  have c1 : ok_iRsv (m, h) := hl
  unfold ea_iEagerGive f_iEagerGive givM
  dsimp only
  rw [pre_iEagerGive]
  simp only [eL_T, Ml.cs, Hd.cs]
  rw [entK_of (dm_iModel c0) (iv_iModel c0)]
  simp only [d_iModel, lt_d, ge0_d, Int.toNat_natCast, blt_d, ble_self, beq_self, decide_true, cond_true, Bool.and_self, Bool.and_true, Bool.true_and, gd_true, Nat.zero_add, List.getD_cons_zero, List.getD_cons_succ, isI_int, toI_int, isB_bool, toB_bool, eL_T, arr_ln, arr_fn, arr_wd, arr_is, arr_get, ble_d, Nat.le_refl]
  rw [entK_of (dm_iRsv c1) (iv_iRsv c1)]
  simp only [d_iRsv, int_ne, int_eq]
  by_cases e : (rsv m h).2 = 0
  case neg =>
    simp only [e, decide_false, Bool.not_false, cond_true, cond_false]
    rfl
  simp only [e, decide_true, Bool.not_true, cond_true, cond_false]
  have hm0 : MetOk m.rooms h [] := ⟨List.nodup_nil, fun x hx => by cases hx⟩
  have c2 : ok_gat (givN m) (m, h, [], []) := ⟨⟨h1, h3, h4, ⟨h, hm0, .inl rfl⟩, by simp [givN]⟩, Nat.zero_le _⟩
  rw [show T.arr 2 0 (fun _ _ => T.hole) = T.arr 2 ([] : List Hd).length (atL Hd.cs []) from rfl, show T.arr 1 0 (fun _ _ => T.hole) = T.arr 1 ([] : List Int).length (atL rowI []) from rfl]
  rw [entK_of (dm_gat c2) (iv_gat c2)]
  have hgp := gatH_inv m.rooms h (givN m) h ([], []) 0 ⟨hm0, Nat.zero_le _, Nat.zero_le _⟩ (.inl rfl)
  have hal := hgp.1.len
  have htl := Nat.le_trans hgp.2.1 (sumL_le m.rooms hgp.1.nd)
  simp only [f_gat]
  obtain ⟨a, ha⟩ : ∃ a, a = gatH (givN m) m.rooms h ([], []) := ⟨_, rfl⟩
  rw [← ha] at hal htl ⊢
  have c3 : ok_delR (m.rooms, ⟨a.1, w, h⟩) := ⟨hl, by show a.1.length ≤ LM; omega⟩
  rw [entK_of (dm_delR c3) (iv_delR c3)]
  simp only [d_delR]
  obtain ⟨l, hle⟩ : ∃ l, l = m.rooms.filter (fun y => !gvK ⟨a.1, w, h⟩ y) := ⟨_, rfl⟩
  have hll : l.length ≤ m.rooms.length := by rw [hle]; exact List.length_filter_le _ _
  have hmem : ∀ x, x ∈ l → x ∈ m.rooms := fun x hx => by rw [hle] at hx; exact (List.mem_filter.1 hx).1
  rw [← hle]
  try simp only [ble_d, Nat.le_refl, decide_true, Bool.and_self, Bool.and_true, gd_true]
  have hst : st_iEagerGive_1 (givN m) m h w m a l l.length (atL Rm.cs l) 0 = (fun i : Nat => st_iEagerGive_1 (givN m) m h w m a l l.length (atL Rm.cs (gvA (givR h w) l i)) (i : Nat)) 0 := rfl
  rw [hst, forLoop l.length (fun i : Nat => st_iEagerGive_1 (givN m) m h w m a l l.length (atL Rm.cs (gvA (givR h w) l i)) (i : Nat)) (ex_iEagerGive_1_1 (givN m) m h w m a l l.length (atL Rm.cs (gvA (givR h w) l l.length)) l.length) 0 (fun i K hi => ?_) (fun K => ?_) _ (by omega)]
  · have s1 : (m.log.length + a.2.length) * 8 ≤ 70368744177664 := by omega
    have s2 : m.log.length + a.2.length ≤ 70368744177664 := by omega
    rw [post_iEagerGive_1_1]
    simp only [lt_d, ge0_d, Int.toNat_natCast, blt_d, ble_self, beq_self, decide_true, cond_true, Bool.and_self, Bool.and_true, Bool.true_and, gd_true, Nat.zero_add, List.getD_cons_zero, List.getD_cons_succ, isI_int, toI_int, isB_bool, toB_bool, eL_T, arr_ln, arr_fn, arr_wd, arr_is, arr_get, ble_d, Nat.le_refl, s1, s2, cut_all, plain_I, appF_app, gvA_end, oR, oT, Ml.cs, eL_T, List.length_map, List.length_append]
    rfl
  · have hx0 := List.getElem?_eq_getElem hi
    obtain ⟨x, hxe⟩ : ∃ x, x = l[i] := ⟨_, rfl⟩
    rw [← hxe] at hx0
    have hx : (gvA (givR h w) l i)[i]? = some x := by rw [gvA_get _ hi, hx0]
    have hk := (h1.2 _ (hmem _ (List.mem_of_getElem? hx0))).1.1
    have c4 : ok_delH (x.kids, h) := hk
    have w1 : IntKind.i64.wrap ((i : Int) + 1) = ((i + 1 : Nat) : Int) := wrapS (by omega)
    rw [gvA_next _ hx0]
    rw [round_iEagerGive_1]
    simp only [lt_d, ge0_d, Int.toNat_natCast, blt_d, ble_self, beq_self, decide_true, cond_true, Bool.and_self, Bool.and_true, Bool.true_and, gd_true, Nat.zero_add, List.getD_cons_zero, List.getD_cons_succ, isI_int, toI_int, isB_bool, toB_bool, eL_T, arr_ln, arr_fn, arr_wd, arr_is, arr_get, hi, ble_d, Nat.le_refl, atL_of hx, Rm.cs, w1, hd_cond]
    by_cases e1 : x.h = h
    · simp only [e1, decide_true, cond_true]
      rw [givR_at e1, ← ptF_list hx]
      unfold ptF
      rfl
    · simp only [e1, decide_false, cond_false]
      cases w with
      | false =>
        simp only [cond_false]
        rw [givR_off e1, cond_false, set_same hx]
      | true =>
        simp only [cond_true]
        rw [entK_of (dm_delH c4) (iv_delH c4)]
        simp only [d_delH, lt_d, ge0_d, Int.toNat_natCast, blt_d, ble_self, beq_self, decide_true, cond_true, Bool.and_self, Bool.and_true, Bool.true_and, gd_true, Nat.zero_add, List.getD_cons_zero, List.getD_cons_succ, isI_int, toI_int, isB_bool, toB_bool, eL_T, arr_ln, arr_fn, arr_wd, arr_is, arr_get, ble_d, Nat.le_refl]
        rw [givR_off e1, cond_true, setF_setF, setF_list (y := { x with kids := x.kids.filter (fun y => !decide (y = h)) }) hx rfl (by decide : 4 < 11)]
  · rw [round_iEagerGive_1]
    simp only [lt_d, Nat.lt_irrefl, decide_false, cond_false]
theorem s_iEagerGive : EntOk prog i_iEagerGive e_iEagerGive := ent_ok ea_iEagerGive_inj fun x hx =>
  body_sound (φ := (tabS [(i_iModel, e_iModel), (i_iRsv, e_iRsv), (i_delR, e_delR), (i_delH, e_delH), (i_gat, e_gat (givN x.1))])) (tabS_cons s_iModel (tabS_cons s_iRsv (tabS_cons s_delR (tabS_cons s_delH (tabS_cons (s_gat (givN x.1)) tabS_nil))))) mixed (kp := kp_iEagerGive) (n := x.1.rooms.length + 1) func16 (c := bodyOf F_iEagerGive) (by kernel_rfl) (body_iEagerGive x.1 x.2.1 x.2.2 hx) (name_ok (by kernel_rfl))
end Go.Mach.F
namespace Go.Mach.F
open Go Go.Mach Go.Proofs.Try
theorem rof_mem {rs : List Rm} {r : Rm} (h : r ∈ rs) : ¬ rof rs r.h < 0 := by
  rcases rof_of rs r.h with ⟨i, e, _⟩ | ⟨_, hn⟩
  · rw [e]
    omega
  · obtain ⟨j, hj, e⟩ := List.getElem_of_mem h
    refine absurd ?_ (hn j)
    rw [List.getElem?_eq_getElem hj, e]
    rfl
theorem gatH_mono (rs : List Rm) (y : Hd) : ∀ (n : Nat) (h : Hd) (a : List Hd × List Int), y ∈ a.1 → y ∈ (gatH n rs h a).1
  | 0, _, _, hy => hy
  | n + 1, h, a, hy => by
    unfold gatH
    cases hasH a.1 h with
    | true => exact hy
    | false =>
      rw [cond_false]
      cases decide (rof rs h < 0) with
      | true => exact List.mem_append_left _ hy
      | false =>
        rw [cond_false]
        exact fold_inv (fun b : List Hd × List Int => y ∈ b.1) _ _ _ (List.mem_append_left _ hy) fun b x _ hb => gatH_mono rs y n x b hb
theorem gatH_has (rs : List Rm) (n : Nat) (h : Hd) (a : List Hd × List Int) : h ∈ (gatH (n + 1) rs h a).1 := by
  by_cases h1 : h ∈ a.1
  · exact gatH_mono rs h (n + 1) h a h1
  · unfold gatH hasH
    rw [decide_eq_false h1, cond_false]
    cases decide (rof rs h < 0) with
    | true => simp
    | false =>
      rw [cond_false]
      exact fold_inv (fun b : List Hd × List Int => h ∈ b.1) _ _ _ (by simp) fun b x _ hb => gatH_mono rs h n x b hb
/-- A room behind the reference's give. -/
def sgR (g : List Hd) (h : Hd) (w : Bool) (x : Rm) : Option Rm := bif decide (x.h = h) && !w then some ⟨x.h, x.up, [], IntKind.i64.wrap (x.ep + 1), 0, false, 0, [], []⟩ else bif decide (x.h ∈ g) then none else some (bif w then { x with kids := x.kids.filter (fun y => !decide (y = h)) } else x)
def mv2 (f : Nat → Nat → T) (i : Nat) : Nat → Nat → T := setF i 10 T.hole (setF i 9 T.hole f)
theorem mv2_off {f : Nat → Nat → T} {j j' k : Nat} (h : j' ≠ j) : mv2 f j j' k = f j' k := by
  unfold mv2
  rw [setF_j h, setF_j h]
def sgF (g : List Hd) (h : Hd) (w : Bool) (l : List Rm) : Nat → Nat → Nat → T
  | 0 => atL Rm.cs l
  | i + 1 => match l[i]? with
    | some x => bif decide (x.h = h) && !w then sgF g h w l i else bif decide (x.h ∈ g) then sgF g h w l i else bif w then mv2 (sgF g h w l i) i else mvF (sgF g h w l i) i
    | none => sgF g h w l i
theorem sgF_next (g : List Hd) (h : Hd) (w : Bool) {l : List Rm} {i : Nat} {x : Rm} (hx : l[i]? = some x) : sgF g h w l (i + 1) = bif decide (x.h = h) && !w then sgF g h w l i else bif decide (x.h ∈ g) then sgF g h w l i else bif w then mv2 (sgF g h w l i) i else mvF (sgF g h w l i) i := by
  simp only [sgF, hx]
theorem sgF_at (g : List Hd) (h : Hd) (w : Bool) (l : List Rm) : ∀ i j k, i ≤ j → sgF g h w l i j k = atL Rm.cs l j k
  | 0, _, _, _ => rfl
  | i + 1, j, k, hj => by
    have ih := sgF_at g h w l i j k (by omega)
    cases hx : l[i]? with
    | none => simp only [sgF, hx]; exact ih
    | some x =>
      rw [sgF_next g h w hx]
      cases (decide (x.h = h) && !w) with
      | true => exact ih
      | false =>
        cases decide (x.h ∈ g) with
        | true => exact ih
        | false =>
          cases w with
          | true => simp only [cond_true, cond_false]; rw [mv2_off (by omega)]; exact ih
          | false => simp only [cond_false]; rw [mvF_off (by omega)]; exact ih
def sgO (g : List Hd) (h : Hd) (w : Bool) (l : List Rm) (i : Nat) : List Rm := (l.take i).filterMap (sgR g h w)
theorem sgO_next (g : List Hd) (h : Hd) (w : Bool) {l : List Rm} {i : Nat} {x : Rm} (hx : l[i]? = some x) : sgO g h w l (i + 1) = sgO g h w l i ++ (sgR g h w x).toList := by
  unfold sgO
  rw [List.take_add_one, hx, List.filterMap_append]
  cases hs : sgR g h w x <;> simp [hs]
theorem sgO_len (g : List Hd) (h : Hd) (w : Bool) (l : List Rm) (i : Nat) : (sgO g h w l i).length ≤ l.length := by
  unfold sgO
  refine Nat.le_trans (List.length_filterMap_le _ _) ?_
  rw [List.length_take]
  omega
theorem sg_eq (a g : List Hd) (h : Hd) (w : Bool) : ∀ (l : List Rm), (∀ x, x ∈ l → (x.h ∈ a ↔ x.h ∈ g) ∧ (x.h = h → x.h ∈ g)) → l.filterMap (sgR g h w) = (l.filter (fun r => !gvK ⟨a, w, h⟩ r)).map (givR h w)
  | [], _ => rfl
  | x :: l, hh => by
    have ih := sg_eq a g h w l fun y hy => hh y (List.mem_cons_of_mem _ hy)
    obtain ⟨h1, h2⟩ := hh x List.mem_cons_self
    rw [List.filterMap_cons, List.filter_cons]
    by_cases e1 : x.h = h
    · have e2 := h2 e1
      have e3 := h1.2 e2
      cases w with
      | false =>
        have f1 : sgR g h false x = some (givR h false x) := by
          unfold sgR givR
          simp [e1]
        have f2 : gvK ⟨a, false, h⟩ x = false := by
          unfold gvK
          simp [e1]
        rw [f1, f2, ih]
        rfl
      | true =>
        have f1 : sgR g h true x = none := by
          unfold sgR
          rw [decide_eq_true e2]
          simp
        have f2 : gvK ⟨a, true, h⟩ x = true := by
          unfold gvK hasH
          rw [decide_eq_true e3]
          rfl
        rw [f1, f2]
        exact ih
    · by_cases e2 : x.h ∈ g
      · have e3 := h1.2 e2
        have f1 : sgR g h w x = none := by
          unfold sgR
          rw [decide_eq_true e2, decide_eq_false e1]
          rfl
        have f2 : gvK ⟨a, w, h⟩ x = true := by
          unfold gvK hasH
          rw [decide_eq_true e3, decide_eq_false e1]
          simp
        rw [f1, f2]
        exact ih
      · have e3 : x.h ∉ a := fun e => e2 (h1.1 e)
        have f1 : sgR g h w x = some (givR h w x) := by
          unfold sgR givR
          rw [decide_eq_false e2, decide_eq_false e1]
          rfl
        have f2 : gvK ⟨a, w, h⟩ x = false := by
          unfold gvK hasH
          rw [decide_eq_false e3]
          rfl
        rw [f1, f2, ih]
        rfl
theorem cond_dup {R : Type} (a w : Bool) (A B : R) : (bif a then (bif !w then A else B) else B) = bif a && !w then A else B := by cases a <;> cases w <;> rfl
theorem flt_next {α : Type} (p : α → Bool) {l : List α} {i : Nat} {x : α} (hx : l[i]? = some x) : (l.take (i + 1)).filter p = bif p x then (l.take i).filter p ++ [x] else (l.take i).filter p := kpF_next p hx
theorem body_sEagerGive (m : Ml) (h : Hd) (w : Bool) (h0 : ok_sEagerGive (m, h, w)) : body prog (tabS [(i_sModel, e_sModel), (i_sRsv, e_sRsv), (i_sHasH, e_sHasH), (i_told, e_told (givN m))]) kp_sEagerGive (m.rooms.length + (allK m.rooms).length + 1) F_sEagerGive (ea_sEagerGive (m, h, w)) = some ([oR (f_sEagerGive (m, h, w)).1.cs, oT (.int .i64 (f_sEagerGive (m, h, w)).2)], [nul, nul, nul]) := by
  have hlm := lm
  obtain ⟨⟨h1, h2⟩, h3, h4⟩ : (ok_RmS m.rooms ∧ ok_LI m.log) ∧ (allK m.rooms).length < LM ∧ cntL (fun r => r.tags.length) m.rooms ≤ LM := ⟨⟨h0.1, h0.2.1⟩, h0.2.2.1, h0.2.2.2⟩
  have hl : m.rooms.length ≤ LM := h1.1
  have hlog : m.log.length ≤ LM := h2
  have c0 : ok_sModel m := ⟨h1, h2⟩
  have c1 : ok_sRsv (m, h) := hl
  unfold ea_sEagerGive f_sEagerGive givM
  dsimp only
  rw [pre_sEagerGive]
  simp only [eL_T, Ml.cs, Hd.cs]
  rw [entK_of (dm_sModel c0) (iv_sModel c0)]
  simp only [d_sModel, lt_d, ge0_d, Int.toNat_natCast, blt_d, ble_self, beq_self, decide_true, cond_true, Bool.and_self, Bool.and_true, Bool.true_and, gd_true, Nat.zero_add, List.getD_cons_zero, List.getD_cons_succ, isI_int, toI_int, isB_bool, toB_bool, eL_T, arr_ln, arr_fn, arr_wd, arr_is, arr_get, ble_d, Nat.le_refl]
  rw [entK_of (dm_sRsv c1) (iv_sRsv c1)]
  simp only [d_sRsv, int_ne, int_eq]
  by_cases e : (rsv m h).2 = 0
  case neg =>
    simp only [e, decide_false, Bool.not_false, cond_true, cond_false]
    rfl
  simp only [e, decide_true, Bool.not_true, cond_true, cond_false]
  have hm0 : MetOk m.rooms h [] := ⟨List.nodup_nil, fun x hx => by cases hx⟩
  have c2 : ok_told (givN m) (m, h, []) := ⟨h1, h3, h4, ⟨h, hm0, .inl rfl⟩, by simp [givN]⟩
  have r0 : T.arr 2 0 (rowsT []) = T.arr 2 ([] : List Hd).length (atL Hd.cs []) := by rw [rowsT0 Hd.cs]; rfl
  rw [r0, entK_of (dm_told c2) (iv_told c2)]
  have hgp := gatH_inv m.rooms h (givN m) h ([], []) 0 ⟨hm0, Nat.zero_le _, Nat.zero_le _⟩ (.inl rfl)
  have htl := Nat.le_trans hgp.2.1 (sumL_le m.rooms hgp.1.nd)
  have htp := toldS_inv m.rooms h (givN m) h [] hm0 (.inl rfl)
  have hbl := htp.1.len
  obtain ⟨q1, q2⟩ := gat_told m.rooms (givN m) h [] [] [] fun _ _ => Iff.rfl
  have hin : h ∈ (gatH (givN m) m.rooms h ([], [])).1 := gatH_has m.rooms _ h _
  simp only [f_told]
  obtain ⟨a, ha⟩ : ∃ a, a = gatH (givN m) m.rooms h ([], []) := ⟨_, rfl⟩
  obtain ⟨b, hb⟩ : ∃ b, b = toldS (givN m) m.rooms h [] := ⟨_, rfl⟩
  rw [← ha] at htl hin q1 q2 ⊢
  rw [← hb] at hbl q1 q2 ⊢
  rw [List.nil_append] at q1
  have heq : sgO b.2 h w m.rooms m.rooms.length = (m.rooms.filter (fun r => !gvK ⟨a.1, w, h⟩ r)).map (givR h w) := by
    unfold sgO
    rw [List.take_length]
    refine sg_eq a.1 b.2 h w m.rooms fun x hx => ⟨q2 x.h (rof_mem hx), fun e => ?_⟩
    exact (q2 x.h (rof_mem hx)).1 (by rw [e]; exact hin)
  rw [← heq, q1]
  rw [q1] at htl
  obtain ⟨l, hle⟩ : ∃ l, l = m.rooms := ⟨_, rfl⟩
  have hst : st_sEagerGive_1 (givN m) m h w m b m.rooms.length (atL Rm.cs m.rooms) 0 (rowsT []) 0 = (fun i : Nat => st_sEagerGive_1 (givN m) m h w m b m.rooms.length (sgF b.2 h w m.rooms i) (sgO b.2 h w m.rooms i).length (atL Rm.cs (sgO b.2 h w m.rooms i)) (i : Nat)) 0 := by
    rw [rowsT0 Rm.cs]
    rfl
  rw [hst, forLoop m.rooms.length (fun i : Nat => st_sEagerGive_1 (givN m) m h w m b m.rooms.length (sgF b.2 h w m.rooms i) (sgO b.2 h w m.rooms i).length (atL Rm.cs (sgO b.2 h w m.rooms i)) (i : Nat)) (ex_sEagerGive_1_1 (givN m) m h w m b m.rooms.length (sgF b.2 h w m.rooms m.rooms.length) (sgO b.2 h w m.rooms m.rooms.length).length (atL Rm.cs (sgO b.2 h w m.rooms m.rooms.length)) m.rooms.length) 0 (fun i K hi => ?_) (fun K => ?_) _ (by omega)]
  · have s1 : (m.log.length + b.1.length) * 8 ≤ 70368744177664 := by omega
    have s2 : m.log.length + b.1.length ≤ 70368744177664 := by omega
    rw [post_sEagerGive_1_1]
    simp only [lt_d, ge0_d, Int.toNat_natCast, blt_d, ble_self, beq_self, decide_true, cond_true, Bool.and_self, Bool.and_true, Bool.true_and, gd_true, Nat.zero_add, List.getD_cons_zero, List.getD_cons_succ, isI_int, toI_int, isB_bool, toB_bool, eL_T, arr_ln, arr_fn, arr_wd, arr_is, arr_get, ble_d, Nat.le_refl, s1, s2, cut_all, plain_I, appF_app, oR, oT, Ml.cs, eL_T, List.length_append]
    rfl
  · have hx0 := List.getElem?_eq_getElem hi
    obtain ⟨x, hxe⟩ : ∃ x, x = m.rooms[i] := ⟨_, rfl⟩
    rw [← hxe] at hx0
    have hxm := List.mem_of_getElem? hx0
    have hA : ∀ k, sgF b.2 h w m.rooms i i k = (Rm.cs x).getD k .hole := fun k => by rw [sgF_at _ _ _ _ i i k (Nat.le_refl _), atL_of hx0]
    have c4 : ok_sHasH (b.2, x.h) := by show b.2.length ≤ LM; omega
    have w1 : IntKind.i64.wrap ((i : Int) + 1) = ((i + 1 : Nat) : Int) := wrapS (by omega)
    have hol := sgO_len b.2 h w m.rooms i
    have s1 : ((sgO b.2 h w m.rooms i).length + 1) * 136 ≤ 70368744177664 := by omega
    have s2 : (sgO b.2 h w m.rooms i).length + 1 ≤ 70368744177664 := by omega
    rw [sgF_next _ _ _ hx0, sgO_next _ _ _ hx0]
    rw [round_sEagerGive_1]
    simp only [lt_d, ge0_d, Int.toNat_natCast, blt_d, ble_self, beq_self, decide_true, cond_true, Bool.and_self, Bool.and_true, Bool.true_and, gd_true, Nat.zero_add, List.getD_cons_zero, List.getD_cons_succ, isI_int, toI_int, isB_bool, toB_bool, eL_T, arr_ln, arr_fn, arr_wd, arr_is, arr_get, hi, ble_d, Nat.le_refl, setF_k (rfl : Nat.beq 9 4 = false), setF_k (rfl : Nat.beq 10 9 = false), setF_k (rfl : Nat.beq 10 4 = false), hA, Rm.cs, w1, hd_cond, s1, s2, cut_all]
    rw [entK_of (dm_sHasH c4) (iv_sHasH c4)]
    simp only [d_sHasH, hasH]
    rw [cond_dup]
    unfold sgR
    by_cases e0 : (decide (x.h = h) && !w) = true
    · simp only [e0, cond_true, Option.toList_some, List.length_append, List.length_singleton]
      rw [← app1g]
      rfl
    · have e0 : (decide (x.h = h) && !w) = false := by simpa using e0
      simp only [e0, cond_false]
      by_cases e2 : x.h ∈ b.2
      · simp only [e2, decide_true, cond_true, Option.toList_none, List.append_nil]
      · simp only [e2, decide_false, cond_false, Option.toList_some, List.length_append, List.length_singleton]
        cases w with
        | false =>
          simp only [cond_false]
          rw [← app1g]
          rfl
        | true =>
          simp only [cond_true]
          have hkl := kids_len hxm
          have hi1 : st_sEagerGive_2 (givN m) m h true m b m.rooms.length (sgF b.2 h true m.rooms i) (sgO b.2 h true m.rooms i).length (atL Rm.cs (sgO b.2 h true m.rooms i)) (i : Nat) 0 (rowsT []) 0 = (fun j : Nat => st_sEagerGive_2 (givN m) m h true m b m.rooms.length (sgF b.2 h true m.rooms i) (sgO b.2 h true m.rooms i).length (atL Rm.cs (sgO b.2 h true m.rooms i)) (i : Nat) ((x.kids.take j).filter (fun y => !decide (y = h))).length (atL Hd.cs ((x.kids.take j).filter (fun y => !decide (y = h)))) (j : Nat)) 0 := by
            rw [rowsT0 Hd.cs]
            rfl
          rw [hi1, forLoop x.kids.length (fun j : Nat => st_sEagerGive_2 (givN m) m h true m b m.rooms.length (sgF b.2 h true m.rooms i) (sgO b.2 h true m.rooms i).length (atL Rm.cs (sgO b.2 h true m.rooms i)) (i : Nat) ((x.kids.take j).filter (fun y => !decide (y = h))).length (atL Hd.cs ((x.kids.take j).filter (fun y => !decide (y = h)))) (j : Nat)) (ex_sEagerGive_2_1 (givN m) m h true m b m.rooms.length (sgF b.2 h true m.rooms i) (sgO b.2 h true m.rooms i).length (atL Rm.cs (sgO b.2 h true m.rooms i)) (i : Nat) (x.kids.filter (fun y => !decide (y = h))).length (atL Hd.cs (x.kids.filter (fun y => !decide (y = h)))) x.kids.length) 3 (fun j K' hj => ?_) (fun K' => ?_) _ (by omega)]
          · rw [post_sEagerGive_2_1]
            simp only [lt_d, ge0_d, Int.toNat_natCast, blt_d, ble_self, beq_self, decide_true, cond_true, Bool.and_self, Bool.and_true, Bool.true_and, gd_true, Nat.zero_add, List.getD_cons_zero, List.getD_cons_succ, isI_int, toI_int, isB_bool, toB_bool, eL_T, arr_ln, arr_fn, arr_wd, arr_is, arr_get, hi, ble_d, Nat.le_refl, setF_k (rfl : Nat.beq 9 4 = false), setF_k (rfl : Nat.beq 10 9 = false), setF_k (rfl : Nat.beq 10 4 = false), hA, Rm.cs, w1, s1, s2]
            rw [← app1g]
            rfl
          · have hy0 := List.getElem?_eq_getElem hj
            obtain ⟨y, hye⟩ : ∃ y, y = x.kids[j] := ⟨_, rfl⟩
            rw [← hye] at hy0
            have w2 : IntKind.i64.wrap ((j : Int) + 1) = ((j + 1 : Nat) : Int) := wrapS (by omega)
            have hfl : ((x.kids.take j).filter (fun y => !decide (y = h))).length ≤ j := kpF_len (fun y => !decide (y = h)) x.kids (Nat.le_of_lt hj)
            have s3 : (((x.kids.take j).filter (fun y => !decide (y = h))).length + 1) * 16 ≤ 70368744177664 := by omega
            have s4 : ((x.kids.take j).filter (fun y => !decide (y = h))).length + 1 ≤ 70368744177664 := by omega
            rw [round_sEagerGive_2]
            simp only [lt_d, ge0_d, Int.toNat_natCast, blt_d, ble_self, beq_self, decide_true, cond_true, Bool.and_self, Bool.and_true, Bool.true_and, gd_true, Nat.zero_add, List.getD_cons_zero, List.getD_cons_succ, isI_int, toI_int, isB_bool, toB_bool, eL_T, arr_ln, arr_fn, arr_wd, arr_is, arr_get, hi, hj, ble_d, Nat.le_refl, hA, Rm.cs, atL_of hy0, Hd.cs, w2, hd_cond, s3, s4]
            rw [flt_next _ hy0]
            by_cases e5 : y = h
            · simp only [e5, decide_true, Bool.not_true, cond_false]
            · simp only [e5, decide_false, Bool.not_false, cond_true, plainH, appF_app, List.length_append, List.length_singleton]
          · rw [round_sEagerGive_2]
            simp only [lt_d, ge0_d, Int.toNat_natCast, blt_d, ble_self, beq_self, decide_true, cond_true, Bool.and_self, Bool.and_true, Bool.true_and, gd_true, Nat.zero_add, List.getD_cons_zero, List.getD_cons_succ, isI_int, toI_int, isB_bool, toB_bool, eL_T, arr_ln, arr_fn, arr_wd, arr_is, arr_get, hA, Rm.cs, Nat.lt_irrefl, decide_false, cond_false, List.take_length]
  · rw [round_sEagerGive_1]
    simp only [lt_d, Nat.lt_irrefl, decide_false, cond_false]
theorem s_sEagerGive : EntOk prog i_sEagerGive e_sEagerGive := ent_ok ea_sEagerGive_inj fun x hx =>
  body_sound (φ := (tabS [(i_sModel, e_sModel), (i_sRsv, e_sRsv), (i_sHasH, e_sHasH), (i_told, e_told (givN x.1))])) (tabS_cons s_sModel (tabS_cons s_sRsv (tabS_cons s_sHasH (tabS_cons (s_told (givN x.1)) tabS_nil)))) mixed (kp := kp_sEagerGive) (n := x.1.rooms.length + (allK x.1.rooms).length + 1) func13 (c := bodyOf F_sEagerGive) (by kernel_rfl) (body_sEagerGive x.1 x.2.1 x.2.2 hx) (name_ok (by kernel_rfl))
end Go.Mach.F
namespace Go.Mach.F
open Go Go.Mach Go.Proofs.Try
--=set_option maxRecDepth 100000
theorem Nd.cs_inj (x y : Nd) (h : ∀ k, x.cs.getD k .hole = y.cs.getD k .hole) : x = y := by
  have h0 := h 0; have h1 := h 1; have h2 := h 2; have h3 := h 3; have h4 := h 4; have h5 := h 5; have h6 := h 6; have h7 := h 7; have h8 := h 8; have h9 := h 9; have h10 := h 10; have h11 := h 11; have h12 := h 12
  rcases x with ⟨x0, x1, x2, x3, x4, x5, x6, x7, x8, x9, x10, x11, x12⟩
  rcases y with ⟨y0, y1, y2, y3, y4, y5, y6, y7, y8, y9, y10, y11, y12⟩
  simp only [Nd.cs, List.getD_cons_zero, List.getD_cons_succ, T.int.injEq, T.bool.injEq, true_and] at h0 h1 h2 h3 h4 h5 h6 h7 h8 h9 h10 h11 h12
  replace h8 := eI_inj h8
  replace h11 := eL_inj Th.cs_inj h11
  replace h12 := eI_inj h12
  subst h0; subst h1; subst h2; subst h3; subst h4; subst h5; subst h6; subst h7; subst h8; subst h9; subst h10; subst h11; subst h12
  rfl
theorem Ws.cs_inj (x y : Ws) (h : ∀ k, x.cs.getD k .hole = y.cs.getD k .hole) : x = y := by
  have h0 := h 0; have h1 := h 1; have h2 := h 2; have h3 := h 3; have h4 := h 4
  rcases x with ⟨x0, x1, x2, x3, x4⟩
  rcases y with ⟨y0, y1, y2, y3, y4⟩
  simp only [Ws.cs, List.getD_cons_zero, List.getD_cons_succ, T.int.injEq, T.bool.injEq, true_and] at h0 h1 h2 h3 h4
  replace h2 := eI_inj h2
  replace h3 := eI_inj h3
  subst h0; subst h1; subst h2; subst h3; subst h4
  rfl
end Go.Mach.F
namespace Go.Mach.F
open Go Go.Mach Go.Proofs.Try
theorem markL_idem {α : Type} (f : α → Int → α) (c : α → Nat) (hf : ∀ x k, f (f x k) k = f x k) (hc : ∀ x k, c (f x k) = c x) : ∀ (l : List α) (k : Int), markL f c (markL f c l k) k = markL f c l k
  | [], k => rfl
  | x :: l, k => by
    simp only [markL, hf, hc]
    rw [markL_idem f c hf hc l]
theorem cntL_mark {α : Type} (f : α → Int → α) (c : α → Nat) (hc : ∀ x k, c (f x k) = c x) : ∀ (l : List α) (k : Int), cntL c (markL f c l k) = cntL c l
  | [], k => rfl
  | x :: l, k => by
    simp only [markL, cntL, hc]
    rw [cntL_mark f c hc l]
theorem cntL_lin {α : Type} (c d : α → Nat) (A B : Nat) : ∀ l : List α, (∀ x ∈ l, c x ≤ A + B * d x) → cntL c l ≤ A * l.length + B * cntL d l
  | [], _ => by simp [cntL]
  | x :: l, h => by
    have h1 := h x (List.mem_cons_self ..)
    have h2 := cntL_lin c d A B l fun y hy => h y (List.mem_cons_of_mem _ hy)
    simp only [cntL, List.length_cons, Nat.mul_add, Nat.mul_one]
    omega
theorem cb_LI (l : List Int) : cntL c1_LI l ≤ 16 * n_LI l := by
  rw [ct_LI]
  unfold n_LI
  omega
theorem beq_mkLI (l : List Int) (k : Int) : Nat.beq l.length (mk_LI l k).length = true := by rw [len_mkLI]; simp only [beq_self]
theorem mkmk_LI (l : List Int) (k : Int) : mk_LI (mk_LI l k) k = mk_LI l k := markL_idem m1_LI c1_LI (fun _ _ => rfl) (fun _ _ => rfl) l k
theorem ctmk_LI (l : List Int) (k : Int) : cntL c1_LI (mk_LI l k) = cntL c1_LI l := cntL_mark m1_LI c1_LI (fun _ _ => rfl) l k
theorem okqmk_LI {l : List Int} {k : Int} (h : okq_LI l) : okq_LI (mk_LI l k) := by unfold okq_LI; rw [len_mkLI]; exact h
theorem cb_LB (l : List UInt8) : cntL c1_LB l ≤ 16 * n_LB l := by
  rw [ct_LB]
  unfold n_LB
  omega
theorem mkmk_LB (l : List UInt8) (k : Int) : mk_LB (mk_LB l k) k = mk_LB l k := markL_idem m1_LB c1_LB (fun _ _ => rfl) (fun _ _ => rfl) l k
theorem ctmk_LB (l : List UInt8) (k : Int) : cntL c1_LB (mk_LB l k) = cntL c1_LB l := cntL_mark m1_LB c1_LB (fun _ _ => rfl) l k
theorem okqmk_LB {l : List UInt8} {k : Int} (h : okq_LB l) : okq_LB (mk_LB l k) := by unfold okq_LB; rw [len_mkLB]; exact h
theorem cb_HdS (l : List Hd) : cntL c1_HdS l ≤ 16 * n_HdS l := by
  have := cntL_lin c1_HdS (fun _ => 0) 2 0 l fun x _ => by show c1_HdS x ≤ _; unfold c1_HdS; omega
  unfold n_HdS
  omega
theorem mkmk_HdS (l : List Hd) (k : Int) : mk_HdS (mk_HdS l k) k = mk_HdS l k := markL_idem m1_HdS c1_HdS (fun _ _ => rfl) (fun _ _ => rfl) l k
theorem ctmk_HdS (l : List Hd) (k : Int) : cntL c1_HdS (mk_HdS l k) = cntL c1_HdS l := cntL_mark m1_HdS c1_HdS (fun _ _ => rfl) l k
theorem okqmk_HdS {l : List Hd} {k : Int} (h : okq_HdS l) : okq_HdS (mk_HdS l k) := ⟨by rw [len_mkHdS]; exact h.1, fun _ _ => trivial⟩
theorem cb_SfS (l : List Sf) : cntL c1_SfS l ≤ 16 * n_SfS l := by
  have := cntL_lin c1_SfS n1_SfS 0 16 l fun x _ => by have := cb_LB x.b; show c1_SfS x ≤ _; unfold c1_SfS n1_SfS; omega
  unfold n_SfS
  omega
theorem ct1_SfS (x : Sf) (k : Int) : c1_SfS (m1_SfS x k) = c1_SfS x := by simp only [c1_SfS, m1_SfS, mkmk_LB, ctmk_LB]
theorem mm1_SfS (x : Sf) (k : Int) : m1_SfS (m1_SfS x k) k = m1_SfS x k := by simp only [m1_SfS, mkmk_LB, ctmk_LB]
theorem mkmk_SfS (l : List Sf) (k : Int) : mk_SfS (mk_SfS l k) k = mk_SfS l k := markL_idem m1_SfS c1_SfS (fun x k => mm1_SfS x k) (fun x k => ct1_SfS x k) l k
theorem ctmk_SfS (l : List Sf) (k : Int) : cntL c1_SfS (mk_SfS l k) = cntL c1_SfS l := cntL_mark m1_SfS c1_SfS (fun x k => ct1_SfS x k) l k
theorem okqmk_SfS {l : List Sf} {k : Int} (h : okq_SfS l) : okq_SfS (mk_SfS l k) := ⟨by rw [len_mkSfS]; exact h.1, fun x hx => by
    obtain ⟨i, hi, e⟩ := List.getElem_of_mem hx
    have hi' : i < l.length := by rw [len_mkSfS] at hi; exact hi
    have hg := markL_get m1_SfS c1_SfS l k (List.getElem?_eq_getElem hi')
    have he : (mk_SfS l k)[i]? = some x := by rw [List.getElem?_eq_getElem hi, e]
    rw [show (mk_SfS l k)[i]? = (markL m1_SfS c1_SfS l k)[i]? from rfl, hg] at he
    obtain rfl := Option.some.inj he
    have hy : l[i] ∈ l := List.getElem_mem hi'
    exact okqmk_LB ((h.2 _ hy))⟩
end Go.Mach.F
