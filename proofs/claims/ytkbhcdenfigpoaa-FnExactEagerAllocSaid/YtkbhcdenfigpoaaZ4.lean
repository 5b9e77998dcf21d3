/- Lemmas and definitions of the proof (Qe Qf Fd Mk Fm Mr Rx Ry Vg Qg Rz). Conditions: none. -/
import Derived.Test.YtkbhcdenfigpoaaZ3
set_option linter.all false
namespace Go.Mach.F
open Go Go.Mach Go.Proofs.Try
--=set_option maxRecDepth 100000
def thgR (x : Rm) (sz : Int) : Rm := { x with things := x.things ++ [⟨List.replicate sz.toNat 0⟩] }
def bigR (x : Rm) (k : Int) : Rm := { x with chunks := IntKind.i64.wrap (x.chunks + k) }
def alcR (m : Ml) (j sz al : Int) (fr : Bool) : Ml × Int :=
  bif decide (12 ≤ ((rmJ m j).things.length : Int)) then (m, 8) else
  bif decide (m.c.size < sz) then (bif decide (m.c.chunks < IntKind.i64.wrap (tkn m.rooms + cdv sz m.c.size)) then (m, 5) else bif fr then (m, 6) else (setJ m j (thgR (bigR (rmJ m j) (cdv sz m.c.size)) sz), 0))
  else bif needC m (rmJ m j) sz al && decide (m.c.chunks < IntKind.i64.wrap (tkn m.rooms + 1)) then (m, 5) else (setJ m j (thgR (smlR (rmJ m j) (needC m (rmJ m j) sz al) sz al) sz), 0)
def alcM (m : Ml) (h : Hd) (sz al : Int) (fr : Bool) : Ml × Int :=
  bif szOk sz al then (bif decide ((rsv m h).2 = 0) then alcR m (rsv m h).1 sz al fr else (m, (rsv m h).2)) else (m, 1)
def i_isLg : Nat := 131
noncomputable abbrev F_isLg : Func := f131
def kp_isLg : List (Nat × List Nat) := [(0, [4, 8, 9]), (1, [16])]
noncomputable def e_isLg : Ent := inl [] prog (tabS []) kp_isLg 0 F_isLg
theorem s_isLg : EntOk prog i_isLg e_isLg := inl_ok tabS_nil mixed (c := bodyOf F_isLg) func131 (by kernel_rfl) (name_ok (by kernel_rfl))
def i_ssLg : Nat := 125
noncomputable abbrev F_ssLg : Func := f125
def kp_ssLg : List (Nat × List Nat) := [(0, [4, 8, 9]), (1, [16])]
noncomputable def e_ssLg : Ent := inl [] prog (tabS []) kp_ssLg 0 F_ssLg
theorem s_ssLg : EntOk prog i_ssLg e_ssLg := inl_ok tabS_nil mixed (c := bodyOf F_ssLg) func125 (by kernel_rfl) (name_ok (by kernel_rfl))
def i_iCF : Nat := 132
noncomputable abbrev F_iCF : Func := f132
def kp_iCF : List (Nat × List Nat) := [(0, [4, 8, 9]), (1, [16])]
noncomputable def e_iCF : Ent := inl [] prog (tabS [(i_iCeilDiv, e_iCeilDiv)]) kp_iCF 0 F_iCF
theorem s_iCF : EntOk prog i_iCF e_iCF := inl_ok (tabS_cons s_iCeilDiv tabS_nil) mixed (c := bodyOf F_iCF) func132 (by kernel_rfl) (name_ok (by kernel_rfl))
def i_sCF : Nat := 127
noncomputable abbrev F_sCF : Func := f127
def kp_sCF : List (Nat × List Nat) := [(0, [4, 8, 9]), (1, [16])]
noncomputable def e_sCF : Ent := inl [] prog (tabS [(i_sCeilDiv, e_sCeilDiv)]) kp_sCF 0 F_sCF
theorem s_sCF : EntOk prog i_sCF e_sCF := inl_ok (tabS_cons s_sCeilDiv tabS_nil) mixed (c := bodyOf F_sCF) func127 (by kernel_rfl) (name_ok (by kernel_rfl))
def i_itakes : Nat := 133
noncomputable abbrev F_itakes : Func := f133
def kp_itakes : List (Nat × List Nat) := [(0, [4, 8, 9]), (1, [16])]
noncomputable def e_itakes : Ent := inl [] prog (tabS [(i_iTakenBy, e_iTakenBy)]) kp_itakes 0 F_itakes
theorem s_itakes : EntOk prog i_itakes e_itakes := inl_ok (tabS_cons s_iTakenBy tabS_nil) mixed (c := bodyOf F_itakes) func133 (by kernel_rfl) (name_ok (by kernel_rfl))
def ok_iEagerAlloc (x : Ml × Hd × Int × Int × Bool) : Prop := ok_RmS x.1.rooms ∧ ok_LI x.1.log
def ea_iEagerAlloc (x : Ml × Hd × Int × Int × Bool) : List Arg := [aR x.1.cs, aR x.2.1.cs, aI x.2.2.1, aI x.2.2.2.1, aB x.2.2.2.2]
def f_iEagerAlloc (x : Ml × Hd × Int × Int × Bool) : Ml × Int := alcM x.1 x.2.1 x.2.2.1 x.2.2.2.1 x.2.2.2.2
noncomputable def e_iEagerAlloc : Ent := ent [] ok_iEagerAlloc ea_iEagerAlloc (fun (x : Ml × Int) => ([oR x.1.cs, oT (.int .i64 x.2)], [nul, nul, nul, nul, nul])) f_iEagerAlloc
theorem ea_iEagerAlloc_inj (x y : Ml × Hd × Int × Int × Bool) (h : ea_iEagerAlloc x = ea_iEagerAlloc y) : x = y := by
  obtain ⟨m1, h1, sz1, al1, fr1⟩ := x
  obtain ⟨m2, h2, sz2, al2, fr2⟩ := y
  simp only [ea_iEagerAlloc, List.cons.injEq, and_true, true_and] at h
  obtain ⟨e0, e1, e2, e3, e4⟩ := h
  obtain rfl := Ml.cs_ext (aR_inj e0)
  obtain rfl := Hd.cs_ext (aR_inj e1)
  obtain rfl := aI_inj e2
  obtain rfl := aI_inj e3
  obtain rfl := aB_inj e4
  rfl
theorem dm_iEagerAlloc {m : Ml} {h : Hd} {sz : Int} {al : Int} {fr : Bool} (h0 : ok_iEagerAlloc (m, h, sz, al, fr)) : dom ok_iEagerAlloc ea_iEagerAlloc [(0, true, [C.tr false (T.int IntKind.i64 m.c.chunks), C.tr false (T.int IntKind.i64 m.c.size), C.tr false (T.int IntKind.i64 m.c.slots), C.tr false (T.int IntKind.i64 m.c.tax), C.tr false (T.int IntKind.i64 m.c.slice), C.tr false (T.int IntKind.i64 m.c.gens), C.tr false (T.arr 11 m.rooms.length (atL Rm.cs m.rooms)), C.tr false (T.arr 1 m.log.length (atL rowI m.log))]), (0, true, [C.tr false (T.int IntKind.i64 h.slot), C.tr false (T.int IntKind.i64 h.gen)]), (0, false, [C.tr false (T.int IntKind.i64 sz)]), (0, false, [C.tr false (T.int IntKind.i64 al)]), (0, false, [C.tr false (T.bool fr)])] = true := dom_ea (ea := ea_iEagerAlloc) (x := (m, h, sz, al, fr)) h0
theorem iv_iEagerAlloc {m : Ml} {h : Hd} {sz : Int} {al : Int} {fr : Bool} (h0 : ok_iEagerAlloc (m, h, sz, al, fr)) : inv ok_iEagerAlloc ea_iEagerAlloc [(0, true, [C.tr false (T.int IntKind.i64 m.c.chunks), C.tr false (T.int IntKind.i64 m.c.size), C.tr false (T.int IntKind.i64 m.c.slots), C.tr false (T.int IntKind.i64 m.c.tax), C.tr false (T.int IntKind.i64 m.c.slice), C.tr false (T.int IntKind.i64 m.c.gens), C.tr false (T.arr 11 m.rooms.length (atL Rm.cs m.rooms)), C.tr false (T.arr 1 m.log.length (atL rowI m.log))]), (0, true, [C.tr false (T.int IntKind.i64 h.slot), C.tr false (T.int IntKind.i64 h.gen)]), (0, false, [C.tr false (T.int IntKind.i64 sz)]), (0, false, [C.tr false (T.int IntKind.i64 al)]), (0, false, [C.tr false (T.bool fr)])] = (m, h, sz, al, fr) := inv_ea ea_iEagerAlloc_inj (x := (m, h, sz, al, fr)) h0
theorem d_iEagerAlloc (m : Ml) (h : Hd) (sz : Int) (al : Int) (fr : Bool) : f_iEagerAlloc (m, h, sz, al, fr) = alcM m h sz al fr := rfl
def i_iEagerAlloc : Nat := 59
noncomputable abbrev F_iEagerAlloc : Func := f59
def kp_iEagerAlloc : List (Nat × List Nat) := [(0, [8, 12, 16, 20, 21, 24, 25, 40, 41, 48, 49, 60, 72, 92, 132, 176, 180, 184, 188, 192, 244, 256, 316, 320, 324, 328, 332, 336, 340, 344, 348, 352, 356, 360, 376, 528]), (1, [8, 12, 16, 20, 21, 24, 25, 40, 41, 48, 49, 60, 72, 92, 132, 176, 180, 184, 188, 192, 244, 256, 316, 320, 324, 328, 332, 336, 340, 344, 348, 352, 356, 360, 376, 528]), (2, [8, 12, 16, 20, 21, 24, 25, 40, 41, 48, 49, 60, 72, 88, 92, 132, 176, 180, 184, 188, 192, 244, 256, 316, 320, 324, 328, 332, 336, 340, 344, 348, 352, 356, 360, 376, 528]), (3, [40, 41, 44, 48, 49, 72, 92, 132, 176, 244, 256, 376, 528]), (4, [8, 12, 16, 20, 21, 40, 41, 48, 49, 52, 56, 60, 72, 92, 132, 176, 180, 184, 188, 192, 244, 256, 316, 320, 324, 328, 332, 336, 340, 344, 348, 352, 356, 360, 376, 528]), (5, [8, 12, 16, 20, 21, 40, 41, 48, 49, 52, 56, 60, 72, 92, 120, 132, 176, 180, 184, 188, 192, 244, 256, 316, 320, 324, 328, 332, 336, 340, 344, 348, 352, 356, 360, 376, 528]), (6, [40, 41, 44, 48, 49, 72, 92, 132, 176, 244, 256, 376, 528]), (7, [8, 12, 16, 20, 21, 40, 41, 48, 49, 52, 60, 72, 92, 132, 140, 176, 180, 184, 188, 192, 244, 256, 316, 320, 324, 328, 332, 336, 340, 344, 348, 352, 356, 360, 376, 528]), (8, [40, 41, 44, 48, 49, 72, 92, 132, 176, 244, 256, 376, 528]), (9, [8, 12, 16, 20, 21, 40, 41, 48, 49, 60, 72, 92, 132, 176, 180, 184, 188, 192, 244, 256, 316, 320, 324, 328, 332, 336, 340, 344, 348, 352, 356, 360, 376, 528]), (10, [8, 12, 16, 20, 21, 40, 41, 48, 49, 60, 72, 92, 132, 176, 180, 184, 188, 192, 208, 244, 256, 316, 320, 324, 328, 332, 336, 340, 344, 348, 352, 356, 360, 376, 528]), (11, [8, 16, 20, 21, 40, 41, 48, 49, 60, 64, 72, 92, 132, 176, 180, 184, 188, 192, 244, 256, 376, 528]), (12, [8, 16, 40, 41, 48, 49, 60, 64, 72, 92, 132, 176, 180, 184, 188, 192, 228, 244, 256, 376, 528]), (13, [40, 41, 44, 48, 49, 72, 92, 132, 176, 244, 256, 376, 528]), (14, [8, 40, 41, 48, 49, 60, 64, 72, 92, 132, 176, 180, 184, 188, 192, 244, 248, 256, 376, 528]), (15, [40, 41, 44, 48, 49, 72, 92, 132, 176, 244, 256, 376, 528]), (16, [8, 40, 41, 48, 49, 60, 72, 92, 132, 176, 180, 184, 188, 192, 244, 256, 376, 528]), (17, [8, 12, 20, 21, 40, 41, 48, 49, 60, 72, 92, 132, 176, 180, 184, 188, 192, 244, 256, 364, 376, 528]), (18, [8, 12, 40, 41, 48, 49, 60, 72, 92, 132, 176, 180, 184, 188, 192, 244, 256, 372, 376, 528]), (19, [40, 41, 44, 48, 49, 72, 92, 132, 176, 244, 256, 376, 528]), (20, [8, 12, 40, 41, 48, 49, 60, 72, 92, 132, 176, 180, 184, 188, 192, 244, 256, 376, 528]), (21, [8, 40, 41, 48, 49, 60, 72, 92, 132, 176, 180, 184, 188, 192, 244, 256, 376, 528]), (22, [40, 41, 48, 49, 72, 92, 132, 176, 244, 256, 376, 528]), (23, [40, 41, 44, 48, 49, 72, 92, 132, 176, 244, 256, 376, 528])]
theorem pre_iEagerAlloc (m : Ml) (h : Hd) (sz : Int) (al : Int) (fr : Bool) (n : Nat) : body prog (tabS [(i_iModel, e_iModel), (i_iSzOk, e_iSzOk), (i_iRsv, e_iRsv), (i_isLg, e_isLg), (i_iCF, e_iCF), (i_itakes, e_itakes), (i_iAlignUp, e_iAlignUp)]) kp_iEagerAlloc n F_iEagerAlloc [aR m.cs, aR h.cs, aI sz, aI al, aB fr] = (
 entK ok_iModel ea_iModel (f_iModel) [(0, true,
    [C.tr false (T.int IntKind.i64 m.c.1), C.tr false (T.int IntKind.i64 m.c.2),
      C.tr false (T.int IntKind.i64 m.c.3), C.tr false (T.int IntKind.i64 m.c.4),
      C.tr false (T.int IntKind.i64 m.c.5), C.tr false (T.int IntKind.i64 m.c.6), C.tr false (eL 11 Rm.cs m.2),
      C.tr false (eL 1 rowI m.3)])] fun (r1 : Ml) =>
 gd (r1.2.length.ble r1.2.length && true) <|
 gd (r1.3.length.ble r1.3.length && true) <|
 entK ok_iSzOk ea_iSzOk (f_iSzOk) [(0, false, [C.tr false (T.int IntKind.i64 sz)]), (0, false, [C.tr false (T.int IntKind.i64 al)])] fun (r2 : Bool) =>
 bif !r2 then
  gd (r1.2.length.ble r1.2.length && true) <|
  gd (r1.3.length.ble r1.3.length && true) <|
  gd (r1.2.length.ble r1.2.length && true) <|
  gd (r1.3.length.ble r1.3.length && true) <|
  some ([(true, [.tr true (T.int IntKind.i64 r1.c.1), .tr true (T.int IntKind.i64 r1.c.2), .tr true (T.int IntKind.i64 r1.c.3), .tr true (T.int IntKind.i64 r1.c.4), .tr true (T.int IntKind.i64 r1.c.5), .tr true (T.int IntKind.i64 r1.c.6), .tr true (.arr (11) (r1.2.length) ((eL 11 Rm.cs r1.2).fn)), .tr true (.arr (1) (r1.3.length) ((eL 1 rowI r1.3).fn))]), (false, [.tr true (T.int IntKind.i64 1)])], [(false, []), (false, []), (false, []), (false, []), (false, [])])
 else
 entK ok_iRsv ea_iRsv (f_iRsv) [(0, true,
    [C.tr false (T.int IntKind.i64 m.c.1), C.tr false (T.int IntKind.i64 m.c.2),
      C.tr false (T.int IntKind.i64 m.c.3), C.tr false (T.int IntKind.i64 m.c.4),
      C.tr false (T.int IntKind.i64 m.c.5), C.tr false (T.int IntKind.i64 m.c.6), C.tr false (eL 11 Rm.cs m.2),
      C.tr false (eL 1 rowI m.3)]),
  (0, true, [C.tr false (T.int IntKind.i64 h.1), C.tr false (T.int IntKind.i64 h.2)])] fun (r3 : Int × Int) =>
 bif r3.2 != 0 then
  gd (r1.2.length.ble r1.2.length && true) <|
  gd (r1.3.length.ble r1.3.length && true) <|
  gd (r1.2.length.ble r1.2.length && true) <|
  gd (r1.3.length.ble r1.3.length && true) <|
  some ([(true, [.tr true (T.int IntKind.i64 r1.c.1), .tr true (T.int IntKind.i64 r1.c.2), .tr true (T.int IntKind.i64 r1.c.3), .tr true (T.int IntKind.i64 r1.c.4), .tr true (T.int IntKind.i64 r1.c.5), .tr true (T.int IntKind.i64 r1.c.6), .tr true (.arr (11) (r1.2.length) ((eL 11 Rm.cs r1.2).fn)), .tr true (.arr (1) (r1.3.length) ((eL 1 rowI r1.3).fn))]), (false, [.tr true (T.int IntKind.i64 r3.2)])], [(false, []), (false, []), (false, []), (false, []), (false, [])])
 else
 gd (decide (0 ≤ r3.1) && (r3.1.toNat.blt m.2.length && true)) <|
 gd ((atL Rm.cs m.2 r3.1.toNat 9).isArr && (atL Rm.cs m.2 r3.1.toNat 9).wd.beq 1) <|
 bif decide (12 ≤ (↑(atL Rm.cs m.2 r3.1.toNat 9).ln : Int)) then
  gd (r1.2.length.ble r1.2.length && true) <|
  gd (r1.3.length.ble r1.3.length && true) <|
  gd (r1.2.length.ble r1.2.length && true) <|
  gd (r1.3.length.ble r1.3.length && true) <|
  some ([(true, [.tr true (T.int IntKind.i64 r1.c.1), .tr true (T.int IntKind.i64 r1.c.2), .tr true (T.int IntKind.i64 r1.c.3), .tr true (T.int IntKind.i64 r1.c.4), .tr true (T.int IntKind.i64 r1.c.5), .tr true (T.int IntKind.i64 r1.c.6), .tr true (.arr (11) (r1.2.length) ((eL 11 Rm.cs r1.2).fn)), .tr true (.arr (1) (r1.3.length) ((eL 1 rowI r1.3).fn))]), (false, [.tr true (T.int IntKind.i64 8)])], [(false, []), (false, []), (false, []), (false, []), (false, [])])
 else
 gd (decide (0 ≤ r3.1) && (r3.1.toNat.blt r1.2.length && true)) <|
 bif decide (m.c.2 < sz) then
  entK ok_iCeilDiv ea_iCeilDiv (f_iCeilDiv) [(0, false, [C.tr false (T.int IntKind.i64 sz)]), (0, false, [C.tr false (T.int IntKind.i64 m.c.2)])] fun (r4 : Int) =>
  entK ok_iTakenBy ea_iTakenBy (f_iTakenBy) [(0, true,
    [C.tr false (T.int IntKind.i64 m.c.1), C.tr false (T.int IntKind.i64 m.c.2),
      C.tr false (T.int IntKind.i64 m.c.3), C.tr false (T.int IntKind.i64 m.c.4),
      C.tr false (T.int IntKind.i64 m.c.5), C.tr false (T.int IntKind.i64 m.c.6), C.tr false (eL 11 Rm.cs m.2),
      C.tr false (eL 1 rowI m.3)])] fun (r5 : Int) =>
  bif decide (m.c.1 < IntKind.i64.wrap (r5 + r4)) then
   gd (r1.2.length.ble r1.2.length && true) <|
   gd (r1.3.length.ble r1.3.length && true) <|
   gd (r1.2.length.ble r1.2.length && true) <|
   gd (r1.3.length.ble r1.3.length && true) <|
   some ([(true, [.tr true (T.int IntKind.i64 r1.c.1), .tr true (T.int IntKind.i64 r1.c.2), .tr true (T.int IntKind.i64 r1.c.3), .tr true (T.int IntKind.i64 r1.c.4), .tr true (T.int IntKind.i64 r1.c.5), .tr true (T.int IntKind.i64 r1.c.6), .tr true (.arr (11) (r1.2.length) ((eL 11 Rm.cs r1.2).fn)), .tr true (.arr (1) (r1.3.length) ((eL 1 rowI r1.3).fn))]), (false, [.tr true (T.int IntKind.i64 5)])], [(false, []), (false, []), (false, []), (false, []), (false, [])])
  else
  bif fr then
   gd (r1.2.length.ble r1.2.length && true) <|
   gd (r1.3.length.ble r1.3.length && true) <|
   gd (r1.2.length.ble r1.2.length && true) <|
   gd (r1.3.length.ble r1.3.length && true) <|
   some ([(true, [.tr true (T.int IntKind.i64 r1.c.1), .tr true (T.int IntKind.i64 r1.c.2), .tr true (T.int IntKind.i64 r1.c.3), .tr true (T.int IntKind.i64 r1.c.4), .tr true (T.int IntKind.i64 r1.c.5), .tr true (T.int IntKind.i64 r1.c.6), .tr true (.arr (11) (r1.2.length) ((eL 11 Rm.cs r1.2).fn)), .tr true (.arr (1) (r1.3.length) ((eL 1 rowI r1.3).fn))]), (false, [.tr true (T.int IntKind.i64 6)])], [(false, []), (false, []), (false, []), (false, []), (false, [])])
  else
  gd ((0 + r3.1.toNat).blt r1.2.length && true &&
  T.isI IntKind.i64 (atL Rm.cs r1.2 (0 + r3.1.toNat) (6 + 0))) <|
  gd ((0 + r3.1.toNat).blt r1.2.length && true && true) <|
  gd ((0 + r3.1.toNat).blt r1.2.length && true &&
  ((setF (0 + r3.1.toNat) 6
        (T.int IntKind.i64 (IntKind.i64.wrap ((atL Rm.cs r1.2 (0 + r3.1.toNat) 6).toI + r4)))
        (eL 11 Rm.cs r1.2).fn (0 + r3.1.toNat) (9 + 0)).isArr &&
    (setF (0 + r3.1.toNat) 6
            (T.int IntKind.i64 (IntKind.i64.wrap ((atL Rm.cs r1.2 (0 + r3.1.toNat) 6).toI + r4)))
            (eL 11 Rm.cs r1.2).fn (0 + r3.1.toNat) (9 + 0)).wd.beq
      1)) <|
  gd (decide (0 ≤ sz) && (decide (sz ≤ sz) && ((sz.toNat * 1).ble 70368744177664 && sz.toNat.ble 70368744177664))) <|
  gd (sz.toNat.ble sz.toNat && true) <|
  gd (sz.toNat.ble sz.toNat && true) <|
  gd ((0 + r3.1.toNat).blt r1.2.length && true && true &&
  ((T.arr 11 r1.2.length
          (setF (0 + r3.1.toNat) 6
            (T.int IntKind.i64 (IntKind.i64.wrap ((atL Rm.cs r1.2 (0 + r3.1.toNat) 6).toI + r4)))
            (eL 11 Rm.cs r1.2).fn)).get
      [0 + r3.1.toNat, 9 + 0]).isArr) <|
  gd ((setF (0 + r3.1.toNat) 6
          (T.int IntKind.i64 (IntKind.i64.wrap ((atL Rm.cs r1.2 (0 + r3.1.toNat) 6).toI + r4)))
          (eL 11 Rm.cs r1.2).fn (0 + r3.1.toNat) (9 + 0)).ln.ble
    ((T.arr 11 r1.2.length
            (setF (0 + r3.1.toNat) 6
              (T.int IntKind.i64 (IntKind.i64.wrap ((atL Rm.cs r1.2 (0 + r3.1.toNat) 6).toI + r4)))
              (eL 11 Rm.cs r1.2).fn)).get
        [0 + r3.1.toNat, 9 + 0]).ln &&
  Nat.beq 1
    ((T.arr 11 r1.2.length
            (setF (0 + r3.1.toNat) 6
              (T.int IntKind.i64 (IntKind.i64.wrap ((atL Rm.cs r1.2 (0 + r3.1.toNat) 6).toI + r4)))
              (eL 11 Rm.cs r1.2).fn)).get
        [0 + r3.1.toNat, 9 + 0]).wd) <|
  gd ((((setF (0 + r3.1.toNat) 6
              (T.int IntKind.i64 (IntKind.i64.wrap ((atL Rm.cs r1.2 (0 + r3.1.toNat) 6).toI + r4)))
              (eL 11 Rm.cs r1.2).fn (0 + r3.1.toNat) (9 + 0)).ln +
          1) *
        24).ble
    70368744177664 &&
  ((setF (0 + r3.1.toNat) 6
            (T.int IntKind.i64 (IntKind.i64.wrap ((atL Rm.cs r1.2 (0 + r3.1.toNat) 6).toI + r4)))
            (eL 11 Rm.cs r1.2).fn (0 + r3.1.toNat) (9 + 0)).ln +
        1).ble
    70368744177664) <|
  gd (((setF (0 + r3.1.toNat) 6
            (T.int IntKind.i64 (IntKind.i64.wrap ((atL Rm.cs r1.2 (0 + r3.1.toNat) 6).toI + r4)))
            (eL 11 Rm.cs r1.2).fn (0 + r3.1.toNat) (9 + 0)).ln +
        1).ble
    ((setF (0 + r3.1.toNat) 6
          (T.int IntKind.i64 (IntKind.i64.wrap ((atL Rm.cs r1.2 (0 + r3.1.toNat) 6).toI + r4)))
          (eL 11 Rm.cs r1.2).fn (0 + r3.1.toNat) (9 + 0)).ln +
      1) &&
  true) <|
  gd ((0 + r3.1.toNat).blt r1.2.length && true && true) <|
  gd (r1.2.length.ble r1.2.length && true) <|
  gd (r1.3.length.ble r1.3.length && true) <|
  gd (r1.2.length.ble r1.2.length && true) <|
  gd (r1.3.length.ble r1.3.length && true) <|
  some ([(true, [.tr true (T.int IntKind.i64 r1.c.1), .tr true (T.int IntKind.i64 r1.c.2), .tr true (T.int IntKind.i64 r1.c.3), .tr true (T.int IntKind.i64 r1.c.4), .tr true (T.int IntKind.i64 r1.c.5), .tr true (T.int IntKind.i64 r1.c.6), .tr true (.arr (11) (r1.2.length) (setF (0 + r3.1.toNat) 9
  (T.arr 1
    ((setF (0 + r3.1.toNat) 6
          (T.int IntKind.i64 (IntKind.i64.wrap ((atL Rm.cs r1.2 (0 + r3.1.toNat) 6).toI + r4)))
          (eL 11 Rm.cs r1.2).fn (0 + r3.1.toNat) 9).ln +
      1)
    (appF
      (setF (0 + r3.1.toNat) 6
          (T.int IntKind.i64 (IntKind.i64.wrap ((atL Rm.cs r1.2 (0 + r3.1.toNat) 6).toI + r4)))
          (eL 11 Rm.cs r1.2).fn (0 + r3.1.toNat) 9).ln
      ((T.arr 11 r1.2.length
              (setF (0 + r3.1.toNat) 6
                (T.int IntKind.i64 (IntKind.i64.wrap ((atL Rm.cs r1.2 (0 + r3.1.toNat) 6).toI + r4)))
                (eL 11 Rm.cs r1.2).fn)).get
          [0 + r3.1.toNat, 9]).fn
      (rowsT [[T.arr 1 sz.toNat (cutT 0 sz.toNat (zeroT prog 5))]])))
  (setF (0 + r3.1.toNat) 9 T.hole
    (setF (0 + r3.1.toNat) 6
      (T.int IntKind.i64 (IntKind.i64.wrap ((atL Rm.cs r1.2 (0 + r3.1.toNat) 6).toI + r4)))
      (eL 11 Rm.cs r1.2).fn)))), .tr true (.arr (1) (r1.3.length) ((eL 1 rowI r1.3).fn))]), (false, [.tr true (T.int IntKind.i64 0)])], [(false, []), (false, []), (false, []), (false, []), (false, [])])
 else
 gd ((0 + r3.1.toNat).blt r1.2.length && true && (atL Rm.cs r1.2 (0 + r3.1.toNat) (7 + 0)).isB) <|
 bif !(atL Rm.cs r1.2 (0 + r3.1.toNat) (7 + 0)).toB then
  entK ok_iTakenBy ea_iTakenBy (f_iTakenBy) [(0, true,
    [C.tr false (T.int IntKind.i64 m.c.1), C.tr false (T.int IntKind.i64 m.c.2),
      C.tr false (T.int IntKind.i64 m.c.3), C.tr false (T.int IntKind.i64 m.c.4),
      C.tr false (T.int IntKind.i64 m.c.5), C.tr false (T.int IntKind.i64 m.c.6), C.tr false (eL 11 Rm.cs m.2),
      C.tr false (eL 1 rowI m.3)])] fun (r7 : Int) =>
  bif decide (m.c.1 < IntKind.i64.wrap (r7 + 1)) then
   gd (r1.2.length.ble r1.2.length && true) <|
   gd (r1.3.length.ble r1.3.length && true) <|
   gd (r1.2.length.ble r1.2.length && true) <|
   gd (r1.3.length.ble r1.3.length && true) <|
   some ([(true, [.tr true (T.int IntKind.i64 r1.c.1), .tr true (T.int IntKind.i64 r1.c.2), .tr true (T.int IntKind.i64 r1.c.3), .tr true (T.int IntKind.i64 r1.c.4), .tr true (T.int IntKind.i64 r1.c.5), .tr true (T.int IntKind.i64 r1.c.6), .tr true (.arr (11) (r1.2.length) ((eL 11 Rm.cs r1.2).fn)), .tr true (.arr (1) (r1.3.length) ((eL 1 rowI r1.3).fn))]), (false, [.tr true (T.int IntKind.i64 5)])], [(false, []), (false, []), (false, []), (false, []), (false, [])])
  else
  gd ((0 + r3.1.toNat).blt r1.2.length && true &&
  T.isI IntKind.i64 (atL Rm.cs r1.2 (0 + r3.1.toNat) (6 + 0))) <|
  gd ((0 + r3.1.toNat).blt r1.2.length && true && true) <|
  gd ((0 + r3.1.toNat).blt r1.2.length && true && true) <|
  gd ((0 + r3.1.toNat).blt r1.2.length && true && true) <|
  gd ((0 + r3.1.toNat).blt r1.2.length && true &&
  T.isI IntKind.i64
    (setF (0 + r3.1.toNat) 8 (T.int IntKind.i64 0)
      (setF (0 + r3.1.toNat) 7 (T.bool true)
        (setF (0 + r3.1.toNat) 6
          (T.int IntKind.i64 (IntKind.i64.wrap ((atL Rm.cs r1.2 (0 + r3.1.toNat) 6).toI + 1)))
          (eL 11 Rm.cs r1.2).fn))
      (0 + r3.1.toNat) (8 + 0))) <|
  entK ok_iAlignUp ea_iAlignUp (f_iAlignUp) [(0, false,
    [C.tr false
        (T.int IntKind.i64
          (setF (0 + r3.1.toNat) 8 (T.int IntKind.i64 0)
              (setF (0 + r3.1.toNat) 7 (T.bool true)
                (setF (0 + r3.1.toNat) 6
                  (T.int IntKind.i64 (IntKind.i64.wrap ((atL Rm.cs r1.2 (0 + r3.1.toNat) 6).toI + 1)))
                  (eL 11 Rm.cs r1.2).fn))
              (0 + r3.1.toNat) (8 + 0)).toI)]),
  (0, false, [C.tr false (T.int IntKind.i64 al)])] fun (r8 : Int) =>
  gd ((0 + r3.1.toNat).blt r1.2.length && true && true) <|
  gd ((0 + r3.1.toNat).blt r1.2.length && true &&
  ((setF (0 + r3.1.toNat) 8 (T.int IntKind.i64 (IntKind.i64.wrap (r8 + sz)))
        (setF (0 + r3.1.toNat) 8 (T.int IntKind.i64 0)
          (setF (0 + r3.1.toNat) 7 (T.bool true)
            (setF (0 + r3.1.toNat) 6
              (T.int IntKind.i64 (IntKind.i64.wrap ((atL Rm.cs r1.2 (0 + r3.1.toNat) 6).toI + 1)))
              (eL 11 Rm.cs r1.2).fn)))
        (0 + r3.1.toNat) (9 + 0)).isArr &&
    (setF (0 + r3.1.toNat) 8 (T.int IntKind.i64 (IntKind.i64.wrap (r8 + sz)))
            (setF (0 + r3.1.toNat) 8 (T.int IntKind.i64 0)
              (setF (0 + r3.1.toNat) 7 (T.bool true)
                (setF (0 + r3.1.toNat) 6
                  (T.int IntKind.i64 (IntKind.i64.wrap ((atL Rm.cs r1.2 (0 + r3.1.toNat) 6).toI + 1)))
                  (eL 11 Rm.cs r1.2).fn)))
            (0 + r3.1.toNat) (9 + 0)).wd.beq
      1)) <|
  gd (decide (0 ≤ sz) && (decide (sz ≤ sz) && ((sz.toNat * 1).ble 70368744177664 && sz.toNat.ble 70368744177664))) <|
  gd (sz.toNat.ble sz.toNat && true) <|
  gd (sz.toNat.ble sz.toNat && true) <|
  gd ((0 + r3.1.toNat).blt r1.2.length && true && true &&
  ((T.arr 11 r1.2.length
          (setF (0 + r3.1.toNat) 8 (T.int IntKind.i64 (IntKind.i64.wrap (r8 + sz)))
            (setF (0 + r3.1.toNat) 8 (T.int IntKind.i64 0)
              (setF (0 + r3.1.toNat) 7 (T.bool true)
                (setF (0 + r3.1.toNat) 6
                  (T.int IntKind.i64 (IntKind.i64.wrap ((atL Rm.cs r1.2 (0 + r3.1.toNat) 6).toI + 1)))
                  (eL 11 Rm.cs r1.2).fn))))).get
      [0 + r3.1.toNat, 9 + 0]).isArr) <|
  gd ((setF (0 + r3.1.toNat) 8 (T.int IntKind.i64 (IntKind.i64.wrap (r8 + sz)))
          (setF (0 + r3.1.toNat) 8 (T.int IntKind.i64 0)
            (setF (0 + r3.1.toNat) 7 (T.bool true)
              (setF (0 + r3.1.toNat) 6
                (T.int IntKind.i64 (IntKind.i64.wrap ((atL Rm.cs r1.2 (0 + r3.1.toNat) 6).toI + 1)))
                (eL 11 Rm.cs r1.2).fn)))
          (0 + r3.1.toNat) (9 + 0)).ln.ble
    ((T.arr 11 r1.2.length
            (setF (0 + r3.1.toNat) 8 (T.int IntKind.i64 (IntKind.i64.wrap (r8 + sz)))
              (setF (0 + r3.1.toNat) 8 (T.int IntKind.i64 0)
                (setF (0 + r3.1.toNat) 7 (T.bool true)
                  (setF (0 + r3.1.toNat) 6
                    (T.int IntKind.i64 (IntKind.i64.wrap ((atL Rm.cs r1.2 (0 + r3.1.toNat) 6).toI + 1)))
                    (eL 11 Rm.cs r1.2).fn))))).get
        [0 + r3.1.toNat, 9 + 0]).ln &&
  Nat.beq 1
    ((T.arr 11 r1.2.length
            (setF (0 + r3.1.toNat) 8 (T.int IntKind.i64 (IntKind.i64.wrap (r8 + sz)))
              (setF (0 + r3.1.toNat) 8 (T.int IntKind.i64 0)
                (setF (0 + r3.1.toNat) 7 (T.bool true)
                  (setF (0 + r3.1.toNat) 6
                    (T.int IntKind.i64 (IntKind.i64.wrap ((atL Rm.cs r1.2 (0 + r3.1.toNat) 6).toI + 1)))
                    (eL 11 Rm.cs r1.2).fn))))).get
        [0 + r3.1.toNat, 9 + 0]).wd) <|
  gd ((((setF (0 + r3.1.toNat) 8 (T.int IntKind.i64 (IntKind.i64.wrap (r8 + sz)))
              (setF (0 + r3.1.toNat) 8 (T.int IntKind.i64 0)
                (setF (0 + r3.1.toNat) 7 (T.bool true)
                  (setF (0 + r3.1.toNat) 6
                    (T.int IntKind.i64 (IntKind.i64.wrap ((atL Rm.cs r1.2 (0 + r3.1.toNat) 6).toI + 1)))
                    (eL 11 Rm.cs r1.2).fn)))
              (0 + r3.1.toNat) (9 + 0)).ln +
          1) *
        24).ble
    70368744177664 &&
  ((setF (0 + r3.1.toNat) 8 (T.int IntKind.i64 (IntKind.i64.wrap (r8 + sz)))
            (setF (0 + r3.1.toNat) 8 (T.int IntKind.i64 0)
              (setF (0 + r3.1.toNat) 7 (T.bool true)
                (setF (0 + r3.1.toNat) 6
                  (T.int IntKind.i64 (IntKind.i64.wrap ((atL Rm.cs r1.2 (0 + r3.1.toNat) 6).toI + 1)))
                  (eL 11 Rm.cs r1.2).fn)))
            (0 + r3.1.toNat) (9 + 0)).ln +
        1).ble
    70368744177664) <|
  gd (((setF (0 + r3.1.toNat) 8 (T.int IntKind.i64 (IntKind.i64.wrap (r8 + sz)))
            (setF (0 + r3.1.toNat) 8 (T.int IntKind.i64 0)
              (setF (0 + r3.1.toNat) 7 (T.bool true)
                (setF (0 + r3.1.toNat) 6
                  (T.int IntKind.i64 (IntKind.i64.wrap ((atL Rm.cs r1.2 (0 + r3.1.toNat) 6).toI + 1)))
                  (eL 11 Rm.cs r1.2).fn)))
            (0 + r3.1.toNat) (9 + 0)).ln +
        1).ble
    ((setF (0 + r3.1.toNat) 8 (T.int IntKind.i64 (IntKind.i64.wrap (r8 + sz)))
          (setF (0 + r3.1.toNat) 8 (T.int IntKind.i64 0)
            (setF (0 + r3.1.toNat) 7 (T.bool true)
              (setF (0 + r3.1.toNat) 6
                (T.int IntKind.i64 (IntKind.i64.wrap ((atL Rm.cs r1.2 (0 + r3.1.toNat) 6).toI + 1)))
                (eL 11 Rm.cs r1.2).fn)))
          (0 + r3.1.toNat) (9 + 0)).ln +
      1) &&
  true) <|
  gd ((0 + r3.1.toNat).blt r1.2.length && true && true) <|
  gd (r1.2.length.ble r1.2.length && true) <|
  gd (r1.3.length.ble r1.3.length && true) <|
  gd (r1.2.length.ble r1.2.length && true) <|
  gd (r1.3.length.ble r1.3.length && true) <|
  some ([(true, [.tr true (T.int IntKind.i64 r1.c.1), .tr true (T.int IntKind.i64 r1.c.2), .tr true (T.int IntKind.i64 r1.c.3), .tr true (T.int IntKind.i64 r1.c.4), .tr true (T.int IntKind.i64 r1.c.5), .tr true (T.int IntKind.i64 r1.c.6), .tr true (.arr (11) (r1.2.length) (setF (0 + r3.1.toNat) 9
  (T.arr 1
    ((setF (0 + r3.1.toNat) 8 (T.int IntKind.i64 (IntKind.i64.wrap (r8 + sz)))
          (setF (0 + r3.1.toNat) 8 (T.int IntKind.i64 0)
            (setF (0 + r3.1.toNat) 7 (T.bool true)
              (setF (0 + r3.1.toNat) 6
                (T.int IntKind.i64 (IntKind.i64.wrap ((atL Rm.cs r1.2 (0 + r3.1.toNat) 6).toI + 1)))
                (eL 11 Rm.cs r1.2).fn)))
          (0 + r3.1.toNat) 9).ln +
      1)
    (appF
      (setF (0 + r3.1.toNat) 8 (T.int IntKind.i64 (IntKind.i64.wrap (r8 + sz)))
          (setF (0 + r3.1.toNat) 8 (T.int IntKind.i64 0)
            (setF (0 + r3.1.toNat) 7 (T.bool true)
              (setF (0 + r3.1.toNat) 6
                (T.int IntKind.i64 (IntKind.i64.wrap ((atL Rm.cs r1.2 (0 + r3.1.toNat) 6).toI + 1)))
                (eL 11 Rm.cs r1.2).fn)))
          (0 + r3.1.toNat) 9).ln
      ((T.arr 11 r1.2.length
              (setF (0 + r3.1.toNat) 8 (T.int IntKind.i64 (IntKind.i64.wrap (r8 + sz)))
                (setF (0 + r3.1.toNat) 8 (T.int IntKind.i64 0)
                  (setF (0 + r3.1.toNat) 7 (T.bool true)
                    (setF (0 + r3.1.toNat) 6
                      (T.int IntKind.i64 (IntKind.i64.wrap ((atL Rm.cs r1.2 (0 + r3.1.toNat) 6).toI + 1)))
                      (eL 11 Rm.cs r1.2).fn))))).get
          [0 + r3.1.toNat, 9]).fn
      (rowsT [[T.arr 1 sz.toNat (cutT 0 sz.toNat (zeroT prog 5))]])))
  (setF (0 + r3.1.toNat) 9 T.hole
    (setF (0 + r3.1.toNat) 8 (T.int IntKind.i64 (IntKind.i64.wrap (r8 + sz)))
      (setF (0 + r3.1.toNat) 8 (T.int IntKind.i64 0)
        (setF (0 + r3.1.toNat) 7 (T.bool true)
          (setF (0 + r3.1.toNat) 6
            (T.int IntKind.i64 (IntKind.i64.wrap ((atL Rm.cs r1.2 (0 + r3.1.toNat) 6).toI + 1)))
            (eL 11 Rm.cs r1.2).fn))))))), .tr true (.arr (1) (r1.3.length) ((eL 1 rowI r1.3).fn))]), (false, [.tr true (T.int IntKind.i64 0)])], [(false, []), (false, []), (false, []), (false, []), (false, [])])
 else
 gd ((0 + r3.1.toNat).blt r1.2.length && true &&
  T.isI IntKind.i64 (atL Rm.cs r1.2 (0 + r3.1.toNat) (8 + 0))) <|
 entK ok_iAlignUp ea_iAlignUp (f_iAlignUp) [(0, false, [C.tr false (T.int IntKind.i64 (atL Rm.cs r1.2 (0 + r3.1.toNat) (8 + 0)).toI)]),
  (0, false, [C.tr false (T.int IntKind.i64 al)])] fun (r6 : Int) =>
 bif decide (m.c.2 < IntKind.i64.wrap (r6 + sz)) then
  entK ok_iTakenBy ea_iTakenBy (f_iTakenBy) [(0, true,
    [C.tr false (T.int IntKind.i64 m.c.1), C.tr false (T.int IntKind.i64 m.c.2),
      C.tr false (T.int IntKind.i64 m.c.3), C.tr false (T.int IntKind.i64 m.c.4),
      C.tr false (T.int IntKind.i64 m.c.5), C.tr false (T.int IntKind.i64 m.c.6), C.tr false (eL 11 Rm.cs m.2),
      C.tr false (eL 1 rowI m.3)])] fun (r9 : Int) =>
  bif decide (m.c.1 < IntKind.i64.wrap (r9 + 1)) then
   gd (r1.2.length.ble r1.2.length && true) <|
   gd (r1.3.length.ble r1.3.length && true) <|
   gd (r1.2.length.ble r1.2.length && true) <|
   gd (r1.3.length.ble r1.3.length && true) <|
   some ([(true, [.tr true (T.int IntKind.i64 r1.c.1), .tr true (T.int IntKind.i64 r1.c.2), .tr true (T.int IntKind.i64 r1.c.3), .tr true (T.int IntKind.i64 r1.c.4), .tr true (T.int IntKind.i64 r1.c.5), .tr true (T.int IntKind.i64 r1.c.6), .tr true (.arr (11) (r1.2.length) ((eL 11 Rm.cs r1.2).fn)), .tr true (.arr (1) (r1.3.length) ((eL 1 rowI r1.3).fn))]), (false, [.tr true (T.int IntKind.i64 5)])], [(false, []), (false, []), (false, []), (false, []), (false, [])])
  else
  gd ((0 + r3.1.toNat).blt r1.2.length && true &&
  T.isI IntKind.i64 (atL Rm.cs r1.2 (0 + r3.1.toNat) (6 + 0))) <|
  gd ((0 + r3.1.toNat).blt r1.2.length && true && true) <|
  gd ((0 + r3.1.toNat).blt r1.2.length && true && true) <|
  gd ((0 + r3.1.toNat).blt r1.2.length && true && true) <|
  gd ((0 + r3.1.toNat).blt r1.2.length && true &&
  T.isI IntKind.i64
    (setF (0 + r3.1.toNat) 8 (T.int IntKind.i64 0)
      (setF (0 + r3.1.toNat) 7 (T.bool true)
        (setF (0 + r3.1.toNat) 6
          (T.int IntKind.i64 (IntKind.i64.wrap ((atL Rm.cs r1.2 (0 + r3.1.toNat) 6).toI + 1)))
          (eL 11 Rm.cs r1.2).fn))
      (0 + r3.1.toNat) (8 + 0))) <|
  entK ok_iAlignUp ea_iAlignUp (f_iAlignUp) [(0, false,
    [C.tr false
        (T.int IntKind.i64
          (setF (0 + r3.1.toNat) 8 (T.int IntKind.i64 0)
              (setF (0 + r3.1.toNat) 7 (T.bool true)
                (setF (0 + r3.1.toNat) 6
                  (T.int IntKind.i64 (IntKind.i64.wrap ((atL Rm.cs r1.2 (0 + r3.1.toNat) 6).toI + 1)))
                  (eL 11 Rm.cs r1.2).fn))
              (0 + r3.1.toNat) (8 + 0)).toI)]),
  (0, false, [C.tr false (T.int IntKind.i64 al)])] fun (r10 : Int) =>
  gd ((0 + r3.1.toNat).blt r1.2.length && true && true) <|
  gd ((0 + r3.1.toNat).blt r1.2.length && true &&
  ((setF (0 + r3.1.toNat) 8 (T.int IntKind.i64 (IntKind.i64.wrap (r10 + sz)))
        (setF (0 + r3.1.toNat) 8 (T.int IntKind.i64 0)
          (setF (0 + r3.1.toNat) 7 (T.bool true)
            (setF (0 + r3.1.toNat) 6
              (T.int IntKind.i64 (IntKind.i64.wrap ((atL Rm.cs r1.2 (0 + r3.1.toNat) 6).toI + 1)))
              (eL 11 Rm.cs r1.2).fn)))
        (0 + r3.1.toNat) (9 + 0)).isArr &&
    (setF (0 + r3.1.toNat) 8 (T.int IntKind.i64 (IntKind.i64.wrap (r10 + sz)))
            (setF (0 + r3.1.toNat) 8 (T.int IntKind.i64 0)
              (setF (0 + r3.1.toNat) 7 (T.bool true)
                (setF (0 + r3.1.toNat) 6
                  (T.int IntKind.i64 (IntKind.i64.wrap ((atL Rm.cs r1.2 (0 + r3.1.toNat) 6).toI + 1)))
                  (eL 11 Rm.cs r1.2).fn)))
            (0 + r3.1.toNat) (9 + 0)).wd.beq
      1)) <|
  gd (decide (0 ≤ sz) && (decide (sz ≤ sz) && ((sz.toNat * 1).ble 70368744177664 && sz.toNat.ble 70368744177664))) <|
  gd (sz.toNat.ble sz.toNat && true) <|
  gd (sz.toNat.ble sz.toNat && true) <|
  gd ((0 + r3.1.toNat).blt r1.2.length && true && true &&
  ((T.arr 11 r1.2.length
          (setF (0 + r3.1.toNat) 8 (T.int IntKind.i64 (IntKind.i64.wrap (r10 + sz)))
            (setF (0 + r3.1.toNat) 8 (T.int IntKind.i64 0)
              (setF (0 + r3.1.toNat) 7 (T.bool true)
                (setF (0 + r3.1.toNat) 6
                  (T.int IntKind.i64 (IntKind.i64.wrap ((atL Rm.cs r1.2 (0 + r3.1.toNat) 6).toI + 1)))
                  (eL 11 Rm.cs r1.2).fn))))).get
      [0 + r3.1.toNat, 9 + 0]).isArr) <|
  gd ((setF (0 + r3.1.toNat) 8 (T.int IntKind.i64 (IntKind.i64.wrap (r10 + sz)))
          (setF (0 + r3.1.toNat) 8 (T.int IntKind.i64 0)
            (setF (0 + r3.1.toNat) 7 (T.bool true)
              (setF (0 + r3.1.toNat) 6
                (T.int IntKind.i64 (IntKind.i64.wrap ((atL Rm.cs r1.2 (0 + r3.1.toNat) 6).toI + 1)))
                (eL 11 Rm.cs r1.2).fn)))
          (0 + r3.1.toNat) (9 + 0)).ln.ble
    ((T.arr 11 r1.2.length
            (setF (0 + r3.1.toNat) 8 (T.int IntKind.i64 (IntKind.i64.wrap (r10 + sz)))
              (setF (0 + r3.1.toNat) 8 (T.int IntKind.i64 0)
                (setF (0 + r3.1.toNat) 7 (T.bool true)
                  (setF (0 + r3.1.toNat) 6
                    (T.int IntKind.i64 (IntKind.i64.wrap ((atL Rm.cs r1.2 (0 + r3.1.toNat) 6).toI + 1)))
                    (eL 11 Rm.cs r1.2).fn))))).get
        [0 + r3.1.toNat, 9 + 0]).ln &&
  Nat.beq 1
    ((T.arr 11 r1.2.length
            (setF (0 + r3.1.toNat) 8 (T.int IntKind.i64 (IntKind.i64.wrap (r10 + sz)))
              (setF (0 + r3.1.toNat) 8 (T.int IntKind.i64 0)
                (setF (0 + r3.1.toNat) 7 (T.bool true)
                  (setF (0 + r3.1.toNat) 6
                    (T.int IntKind.i64 (IntKind.i64.wrap ((atL Rm.cs r1.2 (0 + r3.1.toNat) 6).toI + 1)))
                    (eL 11 Rm.cs r1.2).fn))))).get
        [0 + r3.1.toNat, 9 + 0]).wd) <|
  gd ((((setF (0 + r3.1.toNat) 8 (T.int IntKind.i64 (IntKind.i64.wrap (r10 + sz)))
              (setF (0 + r3.1.toNat) 8 (T.int IntKind.i64 0)
                (setF (0 + r3.1.toNat) 7 (T.bool true)
                  (setF (0 + r3.1.toNat) 6
                    (T.int IntKind.i64 (IntKind.i64.wrap ((atL Rm.cs r1.2 (0 + r3.1.toNat) 6).toI + 1)))
                    (eL 11 Rm.cs r1.2).fn)))
              (0 + r3.1.toNat) (9 + 0)).ln +
          1) *
        24).ble
    70368744177664 &&
  ((setF (0 + r3.1.toNat) 8 (T.int IntKind.i64 (IntKind.i64.wrap (r10 + sz)))
            (setF (0 + r3.1.toNat) 8 (T.int IntKind.i64 0)
              (setF (0 + r3.1.toNat) 7 (T.bool true)
                (setF (0 + r3.1.toNat) 6
                  (T.int IntKind.i64 (IntKind.i64.wrap ((atL Rm.cs r1.2 (0 + r3.1.toNat) 6).toI + 1)))
                  (eL 11 Rm.cs r1.2).fn)))
            (0 + r3.1.toNat) (9 + 0)).ln +
        1).ble
    70368744177664) <|
  gd (((setF (0 + r3.1.toNat) 8 (T.int IntKind.i64 (IntKind.i64.wrap (r10 + sz)))
            (setF (0 + r3.1.toNat) 8 (T.int IntKind.i64 0)
              (setF (0 + r3.1.toNat) 7 (T.bool true)
                (setF (0 + r3.1.toNat) 6
                  (T.int IntKind.i64 (IntKind.i64.wrap ((atL Rm.cs r1.2 (0 + r3.1.toNat) 6).toI + 1)))
                  (eL 11 Rm.cs r1.2).fn)))
            (0 + r3.1.toNat) (9 + 0)).ln +
        1).ble
    ((setF (0 + r3.1.toNat) 8 (T.int IntKind.i64 (IntKind.i64.wrap (r10 + sz)))
          (setF (0 + r3.1.toNat) 8 (T.int IntKind.i64 0)
            (setF (0 + r3.1.toNat) 7 (T.bool true)
              (setF (0 + r3.1.toNat) 6
                (T.int IntKind.i64 (IntKind.i64.wrap ((atL Rm.cs r1.2 (0 + r3.1.toNat) 6).toI + 1)))
                (eL 11 Rm.cs r1.2).fn)))
          (0 + r3.1.toNat) (9 + 0)).ln +
      1) &&
  true) <|
  gd ((0 + r3.1.toNat).blt r1.2.length && true && true) <|
  gd (r1.2.length.ble r1.2.length && true) <|
  gd (r1.3.length.ble r1.3.length && true) <|
  gd (r1.2.length.ble r1.2.length && true) <|
  gd (r1.3.length.ble r1.3.length && true) <|
  some ([(true, [.tr true (T.int IntKind.i64 r1.c.1), .tr true (T.int IntKind.i64 r1.c.2), .tr true (T.int IntKind.i64 r1.c.3), .tr true (T.int IntKind.i64 r1.c.4), .tr true (T.int IntKind.i64 r1.c.5), .tr true (T.int IntKind.i64 r1.c.6), .tr true (.arr (11) (r1.2.length) (setF (0 + r3.1.toNat) 9
  (T.arr 1
    ((setF (0 + r3.1.toNat) 8 (T.int IntKind.i64 (IntKind.i64.wrap (r10 + sz)))
          (setF (0 + r3.1.toNat) 8 (T.int IntKind.i64 0)
            (setF (0 + r3.1.toNat) 7 (T.bool true)
              (setF (0 + r3.1.toNat) 6
                (T.int IntKind.i64 (IntKind.i64.wrap ((atL Rm.cs r1.2 (0 + r3.1.toNat) 6).toI + 1)))
                (eL 11 Rm.cs r1.2).fn)))
          (0 + r3.1.toNat) 9).ln +
      1)
    (appF
      (setF (0 + r3.1.toNat) 8 (T.int IntKind.i64 (IntKind.i64.wrap (r10 + sz)))
          (setF (0 + r3.1.toNat) 8 (T.int IntKind.i64 0)
            (setF (0 + r3.1.toNat) 7 (T.bool true)
              (setF (0 + r3.1.toNat) 6
                (T.int IntKind.i64 (IntKind.i64.wrap ((atL Rm.cs r1.2 (0 + r3.1.toNat) 6).toI + 1)))
                (eL 11 Rm.cs r1.2).fn)))
          (0 + r3.1.toNat) 9).ln
      ((T.arr 11 r1.2.length
              (setF (0 + r3.1.toNat) 8 (T.int IntKind.i64 (IntKind.i64.wrap (r10 + sz)))
                (setF (0 + r3.1.toNat) 8 (T.int IntKind.i64 0)
                  (setF (0 + r3.1.toNat) 7 (T.bool true)
                    (setF (0 + r3.1.toNat) 6
                      (T.int IntKind.i64 (IntKind.i64.wrap ((atL Rm.cs r1.2 (0 + r3.1.toNat) 6).toI + 1)))
                      (eL 11 Rm.cs r1.2).fn))))).get
          [0 + r3.1.toNat, 9]).fn
      (rowsT [[T.arr 1 sz.toNat (cutT 0 sz.toNat (zeroT prog 5))]])))
  (setF (0 + r3.1.toNat) 9 T.hole
    (setF (0 + r3.1.toNat) 8 (T.int IntKind.i64 (IntKind.i64.wrap (r10 + sz)))
      (setF (0 + r3.1.toNat) 8 (T.int IntKind.i64 0)
        (setF (0 + r3.1.toNat) 7 (T.bool true)
          (setF (0 + r3.1.toNat) 6
            (T.int IntKind.i64 (IntKind.i64.wrap ((atL Rm.cs r1.2 (0 + r3.1.toNat) 6).toI + 1)))
            (eL 11 Rm.cs r1.2).fn))))))), .tr true (.arr (1) (r1.3.length) ((eL 1 rowI r1.3).fn))]), (false, [.tr true (T.int IntKind.i64 0)])], [(false, []), (false, []), (false, []), (false, []), (false, [])])
 else
 gd ((0 + r3.1.toNat).blt r1.2.length && true &&
  T.isI IntKind.i64 (atL Rm.cs r1.2 (0 + r3.1.toNat) (8 + 0))) <|
 entK ok_iAlignUp ea_iAlignUp (f_iAlignUp) [(0, false, [C.tr false (T.int IntKind.i64 (atL Rm.cs r1.2 (0 + r3.1.toNat) (8 + 0)).toI)]),
  (0, false, [C.tr false (T.int IntKind.i64 al)])] fun (r11 : Int) =>
 gd ((0 + r3.1.toNat).blt r1.2.length && true && true) <|
 gd ((0 + r3.1.toNat).blt r1.2.length && true &&
  ((setF (0 + r3.1.toNat) 8 (T.int IntKind.i64 (IntKind.i64.wrap (r11 + sz))) (eL 11 Rm.cs r1.2).fn
        (0 + r3.1.toNat) (9 + 0)).isArr &&
    (setF (0 + r3.1.toNat) 8 (T.int IntKind.i64 (IntKind.i64.wrap (r11 + sz))) (eL 11 Rm.cs r1.2).fn
            (0 + r3.1.toNat) (9 + 0)).wd.beq
      1)) <|
 gd (decide (0 ≤ sz) && (decide (sz ≤ sz) && ((sz.toNat * 1).ble 70368744177664 && sz.toNat.ble 70368744177664))) <|
 gd (sz.toNat.ble sz.toNat && true) <|
 gd (sz.toNat.ble sz.toNat && true) <|
 gd ((0 + r3.1.toNat).blt r1.2.length && true && true &&
  ((T.arr 11 r1.2.length
          (setF (0 + r3.1.toNat) 8 (T.int IntKind.i64 (IntKind.i64.wrap (r11 + sz)))
            (eL 11 Rm.cs r1.2).fn)).get
      [0 + r3.1.toNat, 9 + 0]).isArr) <|
 gd ((setF (0 + r3.1.toNat) 8 (T.int IntKind.i64 (IntKind.i64.wrap (r11 + sz))) (eL 11 Rm.cs r1.2).fn
          (0 + r3.1.toNat) (9 + 0)).ln.ble
    ((T.arr 11 r1.2.length
            (setF (0 + r3.1.toNat) 8 (T.int IntKind.i64 (IntKind.i64.wrap (r11 + sz)))
              (eL 11 Rm.cs r1.2).fn)).get
        [0 + r3.1.toNat, 9 + 0]).ln &&
  Nat.beq 1
    ((T.arr 11 r1.2.length
            (setF (0 + r3.1.toNat) 8 (T.int IntKind.i64 (IntKind.i64.wrap (r11 + sz)))
              (eL 11 Rm.cs r1.2).fn)).get
        [0 + r3.1.toNat, 9 + 0]).wd) <|
 gd ((((setF (0 + r3.1.toNat) 8 (T.int IntKind.i64 (IntKind.i64.wrap (r11 + sz))) (eL 11 Rm.cs r1.2).fn
              (0 + r3.1.toNat) (9 + 0)).ln +
          1) *
        24).ble
    70368744177664 &&
  ((setF (0 + r3.1.toNat) 8 (T.int IntKind.i64 (IntKind.i64.wrap (r11 + sz))) (eL 11 Rm.cs r1.2).fn
            (0 + r3.1.toNat) (9 + 0)).ln +
        1).ble
    70368744177664) <|
 gd (((setF (0 + r3.1.toNat) 8 (T.int IntKind.i64 (IntKind.i64.wrap (r11 + sz))) (eL 11 Rm.cs r1.2).fn
            (0 + r3.1.toNat) (9 + 0)).ln +
        1).ble
    ((setF (0 + r3.1.toNat) 8 (T.int IntKind.i64 (IntKind.i64.wrap (r11 + sz)))
          (eL 11 Rm.cs r1.2).fn (0 + r3.1.toNat) (9 + 0)).ln +
      1) &&
  true) <|
 gd ((0 + r3.1.toNat).blt r1.2.length && true && true) <|
 gd (r1.2.length.ble r1.2.length && true) <|
 gd (r1.3.length.ble r1.3.length && true) <|
 gd (r1.2.length.ble r1.2.length && true) <|
 gd (r1.3.length.ble r1.3.length && true) <|
 some ([(true, [.tr true (T.int IntKind.i64 r1.c.1), .tr true (T.int IntKind.i64 r1.c.2), .tr true (T.int IntKind.i64 r1.c.3), .tr true (T.int IntKind.i64 r1.c.4), .tr true (T.int IntKind.i64 r1.c.5), .tr true (T.int IntKind.i64 r1.c.6), .tr true (.arr (11) (r1.2.length) (setF (0 + r3.1.toNat) 9
  (T.arr 1
    ((setF (0 + r3.1.toNat) 8 (T.int IntKind.i64 (IntKind.i64.wrap (r11 + sz)))
          (eL 11 Rm.cs r1.2).fn (0 + r3.1.toNat) 9).ln +
      1)
    (appF
      (setF (0 + r3.1.toNat) 8 (T.int IntKind.i64 (IntKind.i64.wrap (r11 + sz)))
          (eL 11 Rm.cs r1.2).fn (0 + r3.1.toNat) 9).ln
      ((T.arr 11 r1.2.length
              (setF (0 + r3.1.toNat) 8 (T.int IntKind.i64 (IntKind.i64.wrap (r11 + sz)))
                (eL 11 Rm.cs r1.2).fn)).get
          [0 + r3.1.toNat, 9]).fn
      (rowsT [[T.arr 1 sz.toNat (cutT 0 sz.toNat (zeroT prog 5))]])))
  (setF (0 + r3.1.toNat) 9 T.hole
    (setF (0 + r3.1.toNat) 8 (T.int IntKind.i64 (IntKind.i64.wrap (r11 + sz)))
      (eL 11 Rm.cs r1.2).fn)))), .tr true (.arr (1) (r1.3.length) ((eL 1 rowI r1.3).fn))]), (false, [.tr true (T.int IntKind.i64 0)])], [(false, []), (false, []), (false, []), (false, []), (false, [])])) := by kernel_rfl
def ok_sEagerAlloc (x : Ml × Hd × Int × Int × Bool) : Prop := ok_RmS x.1.rooms ∧ ok_LI x.1.log
def ea_sEagerAlloc (x : Ml × Hd × Int × Int × Bool) : List Arg := [aR x.1.cs, aR x.2.1.cs, aI x.2.2.1, aI x.2.2.2.1, aB x.2.2.2.2]
def f_sEagerAlloc (x : Ml × Hd × Int × Int × Bool) : Ml × Int := alcM x.1 x.2.1 x.2.2.1 x.2.2.2.1 x.2.2.2.2
noncomputable def e_sEagerAlloc : Ent := ent [] ok_sEagerAlloc ea_sEagerAlloc (fun (x : Ml × Int) => ([oR x.1.cs, oT (.int .i64 x.2)], [nul, nul, nul, nul, nul])) f_sEagerAlloc
theorem ea_sEagerAlloc_inj (x y : Ml × Hd × Int × Int × Bool) (h : ea_sEagerAlloc x = ea_sEagerAlloc y) : x = y := by
  obtain ⟨m1, h1, sz1, al1, fr1⟩ := x
  obtain ⟨m2, h2, sz2, al2, fr2⟩ := y
  simp only [ea_sEagerAlloc, List.cons.injEq, and_true, true_and] at h
  obtain ⟨e0, e1, e2, e3, e4⟩ := h
  obtain rfl := Ml.cs_ext (aR_inj e0)
  obtain rfl := Hd.cs_ext (aR_inj e1)
  obtain rfl := aI_inj e2
  obtain rfl := aI_inj e3
  obtain rfl := aB_inj e4
  rfl
theorem dm_sEagerAlloc {m : Ml} {h : Hd} {sz : Int} {al : Int} {fr : Bool} (h0 : ok_sEagerAlloc (m, h, sz, al, fr)) : dom ok_sEagerAlloc ea_sEagerAlloc [(0, true, [C.tr false (T.int IntKind.i64 m.c.chunks), C.tr false (T.int IntKind.i64 m.c.size), C.tr false (T.int IntKind.i64 m.c.slots), C.tr false (T.int IntKind.i64 m.c.tax), C.tr false (T.int IntKind.i64 m.c.slice), C.tr false (T.int IntKind.i64 m.c.gens), C.tr false (T.arr 11 m.rooms.length (atL Rm.cs m.rooms)), C.tr false (T.arr 1 m.log.length (atL rowI m.log))]), (0, true, [C.tr false (T.int IntKind.i64 h.slot), C.tr false (T.int IntKind.i64 h.gen)]), (0, false, [C.tr false (T.int IntKind.i64 sz)]), (0, false, [C.tr false (T.int IntKind.i64 al)]), (0, false, [C.tr false (T.bool fr)])] = true := dom_ea (ea := ea_sEagerAlloc) (x := (m, h, sz, al, fr)) h0
theorem iv_sEagerAlloc {m : Ml} {h : Hd} {sz : Int} {al : Int} {fr : Bool} (h0 : ok_sEagerAlloc (m, h, sz, al, fr)) : inv ok_sEagerAlloc ea_sEagerAlloc [(0, true, [C.tr false (T.int IntKind.i64 m.c.chunks), C.tr false (T.int IntKind.i64 m.c.size), C.tr false (T.int IntKind.i64 m.c.slots), C.tr false (T.int IntKind.i64 m.c.tax), C.tr false (T.int IntKind.i64 m.c.slice), C.tr false (T.int IntKind.i64 m.c.gens), C.tr false (T.arr 11 m.rooms.length (atL Rm.cs m.rooms)), C.tr false (T.arr 1 m.log.length (atL rowI m.log))]), (0, true, [C.tr false (T.int IntKind.i64 h.slot), C.tr false (T.int IntKind.i64 h.gen)]), (0, false, [C.tr false (T.int IntKind.i64 sz)]), (0, false, [C.tr false (T.int IntKind.i64 al)]), (0, false, [C.tr false (T.bool fr)])] = (m, h, sz, al, fr) := inv_ea ea_sEagerAlloc_inj (x := (m, h, sz, al, fr)) h0
theorem d_sEagerAlloc (m : Ml) (h : Hd) (sz : Int) (al : Int) (fr : Bool) : f_sEagerAlloc (m, h, sz, al, fr) = alcM m h sz al fr := rfl
def i_sEagerAlloc : Nat := 58
noncomputable abbrev F_sEagerAlloc : Func := f58
def kp_sEagerAlloc : List (Nat × List Nat) := [(0, [8, 12, 16, 20, 21, 24, 25, 40, 41, 48, 49, 68, 88, 92, 96, 104, 144, 148, 152, 156, 160, 164, 168, 172, 188, 356, 428]), (1, [8, 12, 16, 20, 21, 24, 25, 40, 41, 48, 49, 68, 88, 92, 96, 104, 144, 148, 152, 156, 160, 164, 168, 172, 188, 356, 428]), (2, [8, 12, 16, 20, 21, 24, 25, 40, 41, 48, 49, 68, 100, 104, 144, 148, 152, 156, 160, 164, 168, 172, 188, 356, 428]), (3, [40, 41, 44, 48, 49, 68, 104, 188, 356, 428]), (4, [8, 12, 16, 20, 21, 40, 41, 48, 49, 52, 56, 68, 104, 144, 148, 152, 156, 160, 164, 168, 172, 188, 356, 428]), (5, [8, 12, 16, 20, 21, 40, 41, 48, 49, 52, 56, 68, 104, 176, 188, 356, 428]), (6, [8, 12, 16, 20, 21, 40, 41, 48, 49, 52, 56, 68, 104, 188, 356, 428]), (7, [8, 12, 16, 20, 21, 40, 41, 48, 49, 52, 56, 68, 104, 184, 188, 356, 428]), (8, [40, 41, 44, 48, 49, 68, 104, 188, 356, 428]), (9, [8, 12, 16, 20, 21, 40, 41, 48, 49, 52, 56, 68, 104, 188, 212, 356, 428]), (10, [8, 20, 21, 40, 41, 48, 49, 52, 56, 68, 104, 188, 356, 428]), (11, [8, 16, 20, 21, 40, 41, 48, 49, 52, 56, 60, 68, 104, 188, 356, 428]), (12, [8, 20, 21, 40, 41, 48, 49, 52, 56, 68, 104, 188, 356, 428]), (13, [8, 16, 20, 21, 40, 41, 48, 49, 52, 56, 60, 68, 104, 188, 300, 356, 428]), (14, [8, 20, 21, 40, 41, 48, 49, 52, 56, 68, 104, 188, 356, 428]), (15, [8, 20, 21, 40, 41, 48, 49, 52, 56, 60, 68, 104, 188, 336, 356, 428]), (16, [8, 20, 21, 40, 41, 48, 49, 52, 56, 68, 104, 188, 356, 428]), (17, [8, 20, 21, 40, 41, 48, 49, 52, 56, 68, 104, 188, 348, 356, 428]), (18, [40, 41, 44, 48, 49, 68, 104, 188, 356, 428]), (19, [40, 41, 48, 49, 68, 104, 188, 356, 428]), (20, [40, 41, 44, 48, 49, 68, 104, 188, 356, 428])]
theorem pre_sEagerAlloc (m : Ml) (h : Hd) (sz : Int) (al : Int) (fr : Bool) (n : Nat) : body prog (tabS [(i_sModel, e_sModel), (i_l1In, e_l1In), (i_sAlg, e_sAlg), (i_sRsv, e_sRsv), (i_ssLg, e_ssLg), (i_sSml, e_sSml), (i_sCF, e_sCF), (i_sTakenBy, e_sTakenBy), (i_sZeros, e_sZeros)]) kp_sEagerAlloc n F_sEagerAlloc [aR m.cs, aR h.cs, aI sz, aI al, aB fr] = (
 entK ok_sModel ea_sModel (f_sModel) [(0, true,
    [C.tr false (T.int IntKind.i64 m.c.1), C.tr false (T.int IntKind.i64 m.c.2),
      C.tr false (T.int IntKind.i64 m.c.3), C.tr false (T.int IntKind.i64 m.c.4),
      C.tr false (T.int IntKind.i64 m.c.5), C.tr false (T.int IntKind.i64 m.c.6), C.tr false (eL 11 Rm.cs m.2),
      C.tr false (eL 1 rowI m.3)])] fun (r1 : Ml) =>
 gd (r1.2.length.ble r1.2.length && true) <|
 gd (r1.3.length.ble r1.3.length && true) <|
 bif decide (1 ≤ sz) then
  bif !decide (sz ≤ 200) then
   gd (r1.2.length.ble r1.2.length && true) <|
   gd (r1.3.length.ble r1.3.length && true) <|
   gd (r1.2.length.ble r1.2.length && true) <|
   gd (r1.3.length.ble r1.3.length && true) <|
   some ([(true, [.tr true (T.int IntKind.i64 r1.c.1), .tr true (T.int IntKind.i64 r1.c.2), .tr true (T.int IntKind.i64 r1.c.3), .tr true (T.int IntKind.i64 r1.c.4), .tr true (T.int IntKind.i64 r1.c.5), .tr true (T.int IntKind.i64 r1.c.6), .tr true (.arr (11) (r1.2.length) ((eL 11 Rm.cs r1.2).fn)), .tr true (.arr (1) (r1.3.length) ((eL 1 rowI r1.3).fn))]), (false, [.tr true (T.int IntKind.i64 1)])], [(false, []), (false, []), (false, []), (false, []), (false, [])])
  else
  entK ok_sAlg ea_sAlg (f_sAlg) [(0, false, [C.tr false (T.int IntKind.i64 al)])] fun (r2 : Bool) =>
  bif !r2 then
   gd (r1.2.length.ble r1.2.length && true) <|
   gd (r1.3.length.ble r1.3.length && true) <|
   gd (r1.2.length.ble r1.2.length && true) <|
   gd (r1.3.length.ble r1.3.length && true) <|
   some ([(true, [.tr true (T.int IntKind.i64 r1.c.1), .tr true (T.int IntKind.i64 r1.c.2), .tr true (T.int IntKind.i64 r1.c.3), .tr true (T.int IntKind.i64 r1.c.4), .tr true (T.int IntKind.i64 r1.c.5), .tr true (T.int IntKind.i64 r1.c.6), .tr true (.arr (11) (r1.2.length) ((eL 11 Rm.cs r1.2).fn)), .tr true (.arr (1) (r1.3.length) ((eL 1 rowI r1.3).fn))]), (false, [.tr true (T.int IntKind.i64 1)])], [(false, []), (false, []), (false, []), (false, []), (false, [])])
  else
  entK ok_sRsv ea_sRsv (f_sRsv) [(0, true,
    [C.tr false (T.int IntKind.i64 m.c.1), C.tr false (T.int IntKind.i64 m.c.2),
      C.tr false (T.int IntKind.i64 m.c.3), C.tr false (T.int IntKind.i64 m.c.4),
      C.tr false (T.int IntKind.i64 m.c.5), C.tr false (T.int IntKind.i64 m.c.6), C.tr false (eL 11 Rm.cs m.2),
      C.tr false (eL 1 rowI m.3)]),
  (0, true, [C.tr false (T.int IntKind.i64 h.1), C.tr false (T.int IntKind.i64 h.2)])] fun (r3 : Int × Int) =>
  bif r3.2 == 0 then
   gd (decide (0 ≤ r3.1) && (r3.1.toNat.blt m.2.length && true)) <|
   gd ((atL Rm.cs m.2 r3.1.toNat 9).isArr && (atL Rm.cs m.2 r3.1.toNat 9).wd.beq 1) <|
   bif decide (12 ≤ (↑(atL Rm.cs m.2 r3.1.toNat 9).ln : Int)) then
    gd (r1.2.length.ble r1.2.length && true) <|
    gd (r1.3.length.ble r1.3.length && true) <|
    gd (r1.2.length.ble r1.2.length && true) <|
    gd (r1.3.length.ble r1.3.length && true) <|
    some ([(true, [.tr true (T.int IntKind.i64 r1.c.1), .tr true (T.int IntKind.i64 r1.c.2), .tr true (T.int IntKind.i64 r1.c.3), .tr true (T.int IntKind.i64 r1.c.4), .tr true (T.int IntKind.i64 r1.c.5), .tr true (T.int IntKind.i64 r1.c.6), .tr true (.arr (11) (r1.2.length) ((eL 11 Rm.cs r1.2).fn)), .tr true (.arr (1) (r1.3.length) ((eL 1 rowI r1.3).fn))]), (false, [.tr true (T.int IntKind.i64 8)])], [(false, []), (false, []), (false, []), (false, []), (false, [])])
   else
   bif r3.2 != 0 then
    gd (r1.2.length.ble r1.2.length && true) <|
    gd (r1.3.length.ble r1.3.length && true) <|
    gd (r1.2.length.ble r1.2.length && true) <|
    gd (r1.3.length.ble r1.3.length && true) <|
    some ([(true, [.tr true (T.int IntKind.i64 r1.c.1), .tr true (T.int IntKind.i64 r1.c.2), .tr true (T.int IntKind.i64 r1.c.3), .tr true (T.int IntKind.i64 r1.c.4), .tr true (T.int IntKind.i64 r1.c.5), .tr true (T.int IntKind.i64 r1.c.6), .tr true (.arr (11) (r1.2.length) ((eL 11 Rm.cs r1.2).fn)), .tr true (.arr (1) (r1.3.length) ((eL 1 rowI r1.3).fn))]), (false, [.tr true (T.int IntKind.i64 r3.2)])], [(false, []), (false, []), (false, []), (false, []), (false, [])])
   else
   bif !decide (m.c.2 < sz) then
    entK ok_sSml ea_sSml (f_sSml) [(2, true,
    [C.tr true (T.int IntKind.i64 r1.c.1), C.tr true (T.int IntKind.i64 r1.c.2),
      C.tr true (T.int IntKind.i64 r1.c.3), C.tr true (T.int IntKind.i64 r1.c.4),
      C.tr true (T.int IntKind.i64 r1.c.5), C.tr true (T.int IntKind.i64 r1.c.6),
      C.tr true (T.arr 11 r1.2.length (eL 11 Rm.cs r1.2).fn),
      C.tr true (T.arr 1 r1.3.length (eL 1 rowI r1.3).fn)]),
  (0, false, [C.tr false (T.int IntKind.i64 r3.1)]), (0, false, [C.tr false (T.int IntKind.i64 sz)]),
  (0, false, [C.tr false (T.int IntKind.i64 al)])] fun (r4 : Ml × Int) =>
    bif r4.2 != 0 then
     entK ok_sModel ea_sModel (f_sModel) [(0, true,
    [C.tr false (T.int IntKind.i64 m.c.1), C.tr false (T.int IntKind.i64 m.c.2),
      C.tr false (T.int IntKind.i64 m.c.3), C.tr false (T.int IntKind.i64 m.c.4),
      C.tr false (T.int IntKind.i64 m.c.5), C.tr false (T.int IntKind.i64 m.c.6), C.tr false (eL 11 Rm.cs m.2),
      C.tr false (eL 1 rowI m.3)])] fun (r5 : Ml) =>
     gd (r5.2.length.ble r5.2.length && true) <|
     gd (r5.3.length.ble r5.3.length && true) <|
     gd (r5.2.length.ble r5.2.length && true) <|
     gd (r5.3.length.ble r5.3.length && true) <|
     some ([(true, [.tr true (T.int IntKind.i64 r5.c.1), .tr true (T.int IntKind.i64 r5.c.2), .tr true (T.int IntKind.i64 r5.c.3), .tr true (T.int IntKind.i64 r5.c.4), .tr true (T.int IntKind.i64 r5.c.5), .tr true (T.int IntKind.i64 r5.c.6), .tr true (.arr (11) (r5.2.length) ((eL 11 Rm.cs r5.2).fn)), .tr true (.arr (1) (r5.3.length) ((eL 1 rowI r5.3).fn))]), (false, [.tr true (T.int IntKind.i64 r4.2)])], [(false, []), (false, []), (false, []), (false, []), (false, [])])
    else
    gd (decide (0 ≤ r3.1) && (r3.1.toNat.blt r4.fst.2.length && true)) <|
    gd ((0 + r3.1.toNat).blt r4.fst.2.length && true &&
  ((atL Rm.cs r4.fst.2 (0 + r3.1.toNat) (9 + 0)).isArr &&
    (atL Rm.cs r4.fst.2 (0 + r3.1.toNat) (9 + 0)).wd.beq 1)) <|
    entK ok_sZeros ea_sZeros (f_sZeros) [(0, false, [C.tr false (T.int IntKind.i64 sz)])] fun (r6 : List UInt8) =>
    gd (r6.length.ble r6.length && true) <|
    gd (r6.length.ble r6.length && true) <|
    gd ((0 + r3.1.toNat).blt r4.fst.2.length && true && true &&
  ((eL 11 Rm.cs r4.fst.2).get [0 + r3.1.toNat, 9 + 0]).isArr) <|
    gd ((atL Rm.cs r4.fst.2 (0 + r3.1.toNat) (9 + 0)).ln.ble
    ((eL 11 Rm.cs r4.fst.2).get [0 + r3.1.toNat, 9 + 0]).ln &&
  Nat.beq 1 ((eL 11 Rm.cs r4.fst.2).get [0 + r3.1.toNat, 9 + 0]).wd) <|
    gd ((((atL Rm.cs r4.fst.2 (0 + r3.1.toNat) (9 + 0)).ln + 1) * 24).ble 70368744177664 &&
  ((atL Rm.cs r4.fst.2 (0 + r3.1.toNat) (9 + 0)).ln + 1).ble 70368744177664) <|
    gd (decide (0 ≤ r3.1) && (r3.1.toNat.blt r4.fst.2.length && true)) <|
    gd (((atL Rm.cs r4.fst.2 (0 + r3.1.toNat) (9 + 0)).ln + 1).ble
    ((atL Rm.cs r4.fst.2 (0 + r3.1.toNat) (9 + 0)).ln + 1) &&
  true) <|
    gd ((0 + r3.1.toNat).blt r4.fst.2.length && true && true) <|
    gd (r4.fst.2.length.ble r4.fst.2.length && true) <|
    gd (r4.fst.3.length.ble r4.fst.3.length && true) <|
    gd (r4.fst.2.length.ble r4.fst.2.length && true) <|
    gd (r4.fst.3.length.ble r4.fst.3.length && true) <|
    some ([(true, [.tr true (T.int IntKind.i64 r4.fst.c.1), .tr true (T.int IntKind.i64 r4.fst.c.2), .tr true (T.int IntKind.i64 r4.fst.c.3), .tr true (T.int IntKind.i64 r4.fst.c.4), .tr true (T.int IntKind.i64 r4.fst.c.5), .tr true (T.int IntKind.i64 r4.fst.c.6), .tr true (.arr (11) (r4.fst.2.length) (setF (0 + r3.1.toNat) 9
  (T.arr 1 ((atL Rm.cs r4.fst.2 (0 + r3.1.toNat) 9).ln + 1)
    (appF (atL Rm.cs r4.fst.2 (0 + r3.1.toNat) 9).ln
      ((eL 11 Rm.cs r4.fst.2).get [0 + r3.1.toNat, 9]).fn
      (rowsT [[T.arr 1 r6.length (atL rowB r6)]])))
  (setF (0 + r3.1.toNat) 9 T.hole (atL Rm.cs r4.fst.2)))), .tr true (.arr (1) (r4.fst.3.length) ((eL 1 rowI r4.fst.3).fn))]), (false, [.tr true (T.int IntKind.i64 0)])], [(false, []), (false, []), (false, []), (false, []), (false, [])])
   else
   entK ok_sCeilDiv ea_sCeilDiv (f_sCeilDiv) [(0, false, [C.tr false (T.int IntKind.i64 sz)]), (0, false, [C.tr false (T.int IntKind.i64 m.c.2)])] fun (r7 : Int) =>
   entK ok_sTakenBy ea_sTakenBy (f_sTakenBy) [(0, true,
    [C.tr false (T.int IntKind.i64 m.c.1), C.tr false (T.int IntKind.i64 m.c.2),
      C.tr false (T.int IntKind.i64 m.c.3), C.tr false (T.int IntKind.i64 m.c.4),
      C.tr false (T.int IntKind.i64 m.c.5), C.tr false (T.int IntKind.i64 m.c.6), C.tr false (eL 11 Rm.cs m.2),
      C.tr false (eL 1 rowI m.3)])] fun (r8 : Int) =>
   bif decide (m.c.1 < IntKind.i64.wrap (r8 + r7)) then
    entK ok_sModel ea_sModel (f_sModel) [(0, true,
    [C.tr false (T.int IntKind.i64 m.c.1), C.tr false (T.int IntKind.i64 m.c.2),
      C.tr false (T.int IntKind.i64 m.c.3), C.tr false (T.int IntKind.i64 m.c.4),
      C.tr false (T.int IntKind.i64 m.c.5), C.tr false (T.int IntKind.i64 m.c.6), C.tr false (eL 11 Rm.cs m.2),
      C.tr false (eL 1 rowI m.3)])] fun (r9 : Ml) =>
    gd (r9.2.length.ble r9.2.length && true) <|
    gd (r9.3.length.ble r9.3.length && true) <|
    gd (r9.2.length.ble r9.2.length && true) <|
    gd (r9.3.length.ble r9.3.length && true) <|
    some ([(true, [.tr true (T.int IntKind.i64 r9.c.1), .tr true (T.int IntKind.i64 r9.c.2), .tr true (T.int IntKind.i64 r9.c.3), .tr true (T.int IntKind.i64 r9.c.4), .tr true (T.int IntKind.i64 r9.c.5), .tr true (T.int IntKind.i64 r9.c.6), .tr true (.arr (11) (r9.2.length) ((eL 11 Rm.cs r9.2).fn)), .tr true (.arr (1) (r9.3.length) ((eL 1 rowI r9.3).fn))]), (false, [.tr true (T.int IntKind.i64 5)])], [(false, []), (false, []), (false, []), (false, []), (false, [])])
   else
   bif fr then
    entK ok_sModel ea_sModel (f_sModel) [(0, true,
    [C.tr false (T.int IntKind.i64 m.c.1), C.tr false (T.int IntKind.i64 m.c.2),
      C.tr false (T.int IntKind.i64 m.c.3), C.tr false (T.int IntKind.i64 m.c.4),
      C.tr false (T.int IntKind.i64 m.c.5), C.tr false (T.int IntKind.i64 m.c.6), C.tr false (eL 11 Rm.cs m.2),
      C.tr false (eL 1 rowI m.3)])] fun (r10 : Ml) =>
    gd (r10.2.length.ble r10.2.length && true) <|
    gd (r10.3.length.ble r10.3.length && true) <|
    gd (r10.2.length.ble r10.2.length && true) <|
    gd (r10.3.length.ble r10.3.length && true) <|
    some ([(true, [.tr true (T.int IntKind.i64 r10.c.1), .tr true (T.int IntKind.i64 r10.c.2), .tr true (T.int IntKind.i64 r10.c.3), .tr true (T.int IntKind.i64 r10.c.4), .tr true (T.int IntKind.i64 r10.c.5), .tr true (T.int IntKind.i64 r10.c.6), .tr true (.arr (11) (r10.2.length) ((eL 11 Rm.cs r10.2).fn)), .tr true (.arr (1) (r10.3.length) ((eL 1 rowI r10.3).fn))]), (false, [.tr true (T.int IntKind.i64 6)])], [(false, []), (false, []), (false, []), (false, []), (false, [])])
   else
   gd (decide (0 ≤ r3.1) && (r3.1.toNat.blt r1.2.length && true)) <|
   gd ((0 + r3.1.toNat).blt r1.2.length && true &&
  T.isI IntKind.i64 (atL Rm.cs r1.2 (0 + r3.1.toNat) (6 + 0))) <|
   gd (decide (0 ≤ r3.1) && (r3.1.toNat.blt r1.2.length && true)) <|
   gd ((0 + r3.1.toNat).blt r1.2.length && true && true) <|
   bif r3.2 != 0 then
    entK ok_sModel ea_sModel (f_sModel) [(0, true,
    [C.tr false (T.int IntKind.i64 m.c.1), C.tr false (T.int IntKind.i64 m.c.2),
      C.tr false (T.int IntKind.i64 m.c.3), C.tr false (T.int IntKind.i64 m.c.4),
      C.tr false (T.int IntKind.i64 m.c.5), C.tr false (T.int IntKind.i64 m.c.6), C.tr false (eL 11 Rm.cs m.2),
      C.tr false (eL 1 rowI m.3)])] fun (r11 : Ml) =>
    gd (r11.2.length.ble r11.2.length && true) <|
    gd (r11.3.length.ble r11.3.length && true) <|
    gd (r11.2.length.ble r11.2.length && true) <|
    gd (r11.3.length.ble r11.3.length && true) <|
    some ([(true, [.tr true (T.int IntKind.i64 r11.c.1), .tr true (T.int IntKind.i64 r11.c.2), .tr true (T.int IntKind.i64 r11.c.3), .tr true (T.int IntKind.i64 r11.c.4), .tr true (T.int IntKind.i64 r11.c.5), .tr true (T.int IntKind.i64 r11.c.6), .tr true (.arr (11) (r11.2.length) ((eL 11 Rm.cs r11.2).fn)), .tr true (.arr (1) (r11.3.length) ((eL 1 rowI r11.3).fn))]), (false, [.tr true (T.int IntKind.i64 r3.2)])], [(false, []), (false, []), (false, []), (false, []), (false, [])])
   else
   gd (decide (0 ≤ r3.1) && (r3.1.toNat.blt r1.2.length && true)) <|
   gd ((0 + r3.1.toNat).blt r1.2.length && true &&
  ((setF (0 + r3.1.toNat) 6
        (T.int IntKind.i64 (IntKind.i64.wrap ((atL Rm.cs r1.2 (0 + r3.1.toNat) 6).toI + r7)))
        (eL 11 Rm.cs r1.2).fn (0 + r3.1.toNat) (9 + 0)).isArr &&
    (setF (0 + r3.1.toNat) 6
            (T.int IntKind.i64 (IntKind.i64.wrap ((atL Rm.cs r1.2 (0 + r3.1.toNat) 6).toI + r7)))
            (eL 11 Rm.cs r1.2).fn (0 + r3.1.toNat) (9 + 0)).wd.beq
      1)) <|
   entK ok_sZeros ea_sZeros (f_sZeros) [(0, false, [C.tr false (T.int IntKind.i64 sz)])] fun (r12 : List UInt8) =>
   gd (r12.length.ble r12.length && true) <|
   gd (r12.length.ble r12.length && true) <|
   gd ((0 + r3.1.toNat).blt r1.2.length && true && true &&
  ((T.arr 11 r1.2.length
          (setF (0 + r3.1.toNat) 6
            (T.int IntKind.i64 (IntKind.i64.wrap ((atL Rm.cs r1.2 (0 + r3.1.toNat) 6).toI + r7)))
            (eL 11 Rm.cs r1.2).fn)).get
      [0 + r3.1.toNat, 9 + 0]).isArr) <|
   gd ((setF (0 + r3.1.toNat) 6
          (T.int IntKind.i64 (IntKind.i64.wrap ((atL Rm.cs r1.2 (0 + r3.1.toNat) 6).toI + r7)))
          (eL 11 Rm.cs r1.2).fn (0 + r3.1.toNat) (9 + 0)).ln.ble
    ((T.arr 11 r1.2.length
            (setF (0 + r3.1.toNat) 6
              (T.int IntKind.i64 (IntKind.i64.wrap ((atL Rm.cs r1.2 (0 + r3.1.toNat) 6).toI + r7)))
              (eL 11 Rm.cs r1.2).fn)).get
        [0 + r3.1.toNat, 9 + 0]).ln &&
  Nat.beq 1
    ((T.arr 11 r1.2.length
            (setF (0 + r3.1.toNat) 6
              (T.int IntKind.i64 (IntKind.i64.wrap ((atL Rm.cs r1.2 (0 + r3.1.toNat) 6).toI + r7)))
              (eL 11 Rm.cs r1.2).fn)).get
        [0 + r3.1.toNat, 9 + 0]).wd) <|
   gd ((((setF (0 + r3.1.toNat) 6
              (T.int IntKind.i64 (IntKind.i64.wrap ((atL Rm.cs r1.2 (0 + r3.1.toNat) 6).toI + r7)))
              (eL 11 Rm.cs r1.2).fn (0 + r3.1.toNat) (9 + 0)).ln +
          1) *
        24).ble
    70368744177664 &&
  ((setF (0 + r3.1.toNat) 6
            (T.int IntKind.i64 (IntKind.i64.wrap ((atL Rm.cs r1.2 (0 + r3.1.toNat) 6).toI + r7)))
            (eL 11 Rm.cs r1.2).fn (0 + r3.1.toNat) (9 + 0)).ln +
        1).ble
    70368744177664) <|
   gd (decide (0 ≤ r3.1) && (r3.1.toNat.blt r1.2.length && true)) <|
   gd (((setF (0 + r3.1.toNat) 6
            (T.int IntKind.i64 (IntKind.i64.wrap ((atL Rm.cs r1.2 (0 + r3.1.toNat) 6).toI + r7)))
            (eL 11 Rm.cs r1.2).fn (0 + r3.1.toNat) (9 + 0)).ln +
        1).ble
    ((setF (0 + r3.1.toNat) 6
          (T.int IntKind.i64 (IntKind.i64.wrap ((atL Rm.cs r1.2 (0 + r3.1.toNat) 6).toI + r7)))
          (eL 11 Rm.cs r1.2).fn (0 + r3.1.toNat) (9 + 0)).ln +
      1) &&
  true) <|
   gd ((0 + r3.1.toNat).blt r1.2.length && true && true) <|
   gd (r1.2.length.ble r1.2.length && true) <|
   gd (r1.3.length.ble r1.3.length && true) <|
   gd (r1.2.length.ble r1.2.length && true) <|
   gd (r1.3.length.ble r1.3.length && true) <|
   some ([(true, [.tr true (T.int IntKind.i64 r1.c.1), .tr true (T.int IntKind.i64 r1.c.2), .tr true (T.int IntKind.i64 r1.c.3), .tr true (T.int IntKind.i64 r1.c.4), .tr true (T.int IntKind.i64 r1.c.5), .tr true (T.int IntKind.i64 r1.c.6), .tr true (.arr (11) (r1.2.length) (setF (0 + r3.1.toNat) 9
  (T.arr 1
    ((setF (0 + r3.1.toNat) 6
          (T.int IntKind.i64 (IntKind.i64.wrap ((atL Rm.cs r1.2 (0 + r3.1.toNat) 6).toI + r7)))
          (eL 11 Rm.cs r1.2).fn (0 + r3.1.toNat) 9).ln +
      1)
    (appF
      (setF (0 + r3.1.toNat) 6
          (T.int IntKind.i64 (IntKind.i64.wrap ((atL Rm.cs r1.2 (0 + r3.1.toNat) 6).toI + r7)))
          (eL 11 Rm.cs r1.2).fn (0 + r3.1.toNat) 9).ln
      ((T.arr 11 r1.2.length
              (setF (0 + r3.1.toNat) 6
                (T.int IntKind.i64 (IntKind.i64.wrap ((atL Rm.cs r1.2 (0 + r3.1.toNat) 6).toI + r7)))
                (eL 11 Rm.cs r1.2).fn)).get
          [0 + r3.1.toNat, 9]).fn
      (rowsT [[T.arr 1 r12.length (atL rowB r12)]])))
  (setF (0 + r3.1.toNat) 9 T.hole
    (setF (0 + r3.1.toNat) 6
      (T.int IntKind.i64 (IntKind.i64.wrap ((atL Rm.cs r1.2 (0 + r3.1.toNat) 6).toI + r7)))
      (eL 11 Rm.cs r1.2).fn)))), .tr true (.arr (1) (r1.3.length) ((eL 1 rowI r1.3).fn))]), (false, [.tr true (T.int IntKind.i64 0)])], [(false, []), (false, []), (false, []), (false, []), (false, [])])
  else
  bif r3.2 != 0 then
   gd (r1.2.length.ble r1.2.length && true) <|
   gd (r1.3.length.ble r1.3.length && true) <|
   gd (r1.2.length.ble r1.2.length && true) <|
   gd (r1.3.length.ble r1.3.length && true) <|
   some ([(true, [.tr true (T.int IntKind.i64 r1.c.1), .tr true (T.int IntKind.i64 r1.c.2), .tr true (T.int IntKind.i64 r1.c.3), .tr true (T.int IntKind.i64 r1.c.4), .tr true (T.int IntKind.i64 r1.c.5), .tr true (T.int IntKind.i64 r1.c.6), .tr true (.arr (11) (r1.2.length) ((eL 11 Rm.cs r1.2).fn)), .tr true (.arr (1) (r1.3.length) ((eL 1 rowI r1.3).fn))]), (false, [.tr true (T.int IntKind.i64 r3.2)])], [(false, []), (false, []), (false, []), (false, []), (false, [])])
  else
  bif !decide (m.c.2 < sz) then
   entK ok_sSml ea_sSml (f_sSml) [(2, true,
    [C.tr true (T.int IntKind.i64 r1.c.1), C.tr true (T.int IntKind.i64 r1.c.2),
      C.tr true (T.int IntKind.i64 r1.c.3), C.tr true (T.int IntKind.i64 r1.c.4),
      C.tr true (T.int IntKind.i64 r1.c.5), C.tr true (T.int IntKind.i64 r1.c.6),
      C.tr true (T.arr 11 r1.2.length (eL 11 Rm.cs r1.2).fn),
      C.tr true (T.arr 1 r1.3.length (eL 1 rowI r1.3).fn)]),
  (0, false, [C.tr false (T.int IntKind.i64 r3.1)]), (0, false, [C.tr false (T.int IntKind.i64 sz)]),
  (0, false, [C.tr false (T.int IntKind.i64 al)])] fun (r13 : Ml × Int) =>
   bif r13.2 != 0 then
    entK ok_sModel ea_sModel (f_sModel) [(0, true,
    [C.tr false (T.int IntKind.i64 m.c.1), C.tr false (T.int IntKind.i64 m.c.2),
      C.tr false (T.int IntKind.i64 m.c.3), C.tr false (T.int IntKind.i64 m.c.4),
      C.tr false (T.int IntKind.i64 m.c.5), C.tr false (T.int IntKind.i64 m.c.6), C.tr false (eL 11 Rm.cs m.2),
      C.tr false (eL 1 rowI m.3)])] fun (r14 : Ml) =>
    gd (r14.2.length.ble r14.2.length && true) <|
    gd (r14.3.length.ble r14.3.length && true) <|
    gd (r14.2.length.ble r14.2.length && true) <|
    gd (r14.3.length.ble r14.3.length && true) <|
    some ([(true, [.tr true (T.int IntKind.i64 r14.c.1), .tr true (T.int IntKind.i64 r14.c.2), .tr true (T.int IntKind.i64 r14.c.3), .tr true (T.int IntKind.i64 r14.c.4), .tr true (T.int IntKind.i64 r14.c.5), .tr true (T.int IntKind.i64 r14.c.6), .tr true (.arr (11) (r14.2.length) ((eL 11 Rm.cs r14.2).fn)), .tr true (.arr (1) (r14.3.length) ((eL 1 rowI r14.3).fn))]), (false, [.tr true (T.int IntKind.i64 r13.2)])], [(false, []), (false, []), (false, []), (false, []), (false, [])])
   else
   gd (decide (0 ≤ r3.1) && (r3.1.toNat.blt r13.fst.2.length && true)) <|
   gd ((0 + r3.1.toNat).blt r13.fst.2.length && true &&
  ((atL Rm.cs r13.fst.2 (0 + r3.1.toNat) (9 + 0)).isArr &&
    (atL Rm.cs r13.fst.2 (0 + r3.1.toNat) (9 + 0)).wd.beq 1)) <|
   entK ok_sZeros ea_sZeros (f_sZeros) [(0, false, [C.tr false (T.int IntKind.i64 sz)])] fun (r15 : List UInt8) =>
   gd (r15.length.ble r15.length && true) <|
   gd (r15.length.ble r15.length && true) <|
   gd ((0 + r3.1.toNat).blt r13.fst.2.length && true && true &&
  ((eL 11 Rm.cs r13.fst.2).get [0 + r3.1.toNat, 9 + 0]).isArr) <|
   gd ((atL Rm.cs r13.fst.2 (0 + r3.1.toNat) (9 + 0)).ln.ble
    ((eL 11 Rm.cs r13.fst.2).get [0 + r3.1.toNat, 9 + 0]).ln &&
  Nat.beq 1 ((eL 11 Rm.cs r13.fst.2).get [0 + r3.1.toNat, 9 + 0]).wd) <|
   gd ((((atL Rm.cs r13.fst.2 (0 + r3.1.toNat) (9 + 0)).ln + 1) * 24).ble 70368744177664 &&
  ((atL Rm.cs r13.fst.2 (0 + r3.1.toNat) (9 + 0)).ln + 1).ble 70368744177664) <|
   gd (decide (0 ≤ r3.1) && (r3.1.toNat.blt r13.fst.2.length && true)) <|
   gd (((atL Rm.cs r13.fst.2 (0 + r3.1.toNat) (9 + 0)).ln + 1).ble
    ((atL Rm.cs r13.fst.2 (0 + r3.1.toNat) (9 + 0)).ln + 1) &&
  true) <|
   gd ((0 + r3.1.toNat).blt r13.fst.2.length && true && true) <|
   gd (r13.fst.2.length.ble r13.fst.2.length && true) <|
   gd (r13.fst.3.length.ble r13.fst.3.length && true) <|
   gd (r13.fst.2.length.ble r13.fst.2.length && true) <|
   gd (r13.fst.3.length.ble r13.fst.3.length && true) <|
   some ([(true, [.tr true (T.int IntKind.i64 r13.fst.c.1), .tr true (T.int IntKind.i64 r13.fst.c.2), .tr true (T.int IntKind.i64 r13.fst.c.3), .tr true (T.int IntKind.i64 r13.fst.c.4), .tr true (T.int IntKind.i64 r13.fst.c.5), .tr true (T.int IntKind.i64 r13.fst.c.6), .tr true (.arr (11) (r13.fst.2.length) (setF (0 + r3.1.toNat) 9
  (T.arr 1 ((atL Rm.cs r13.fst.2 (0 + r3.1.toNat) 9).ln + 1)
    (appF (atL Rm.cs r13.fst.2 (0 + r3.1.toNat) 9).ln
      ((eL 11 Rm.cs r13.fst.2).get [0 + r3.1.toNat, 9]).fn
      (rowsT [[T.arr 1 r15.length (atL rowB r15)]])))
  (setF (0 + r3.1.toNat) 9 T.hole (atL Rm.cs r13.fst.2)))), .tr true (.arr (1) (r13.fst.3.length) ((eL 1 rowI r13.fst.3).fn))]), (false, [.tr true (T.int IntKind.i64 0)])], [(false, []), (false, []), (false, []), (false, []), (false, [])])
  else
  entK ok_sCeilDiv ea_sCeilDiv (f_sCeilDiv) [(0, false, [C.tr false (T.int IntKind.i64 sz)]), (0, false, [C.tr false (T.int IntKind.i64 m.c.2)])] fun (r16 : Int) =>
  entK ok_sTakenBy ea_sTakenBy (f_sTakenBy) [(0, true,
    [C.tr false (T.int IntKind.i64 m.c.1), C.tr false (T.int IntKind.i64 m.c.2),
      C.tr false (T.int IntKind.i64 m.c.3), C.tr false (T.int IntKind.i64 m.c.4),
      C.tr false (T.int IntKind.i64 m.c.5), C.tr false (T.int IntKind.i64 m.c.6), C.tr false (eL 11 Rm.cs m.2),
      C.tr false (eL 1 rowI m.3)])] fun (r17 : Int) =>
  bif decide (m.c.1 < IntKind.i64.wrap (r17 + r16)) then
   entK ok_sModel ea_sModel (f_sModel) [(0, true,
    [C.tr false (T.int IntKind.i64 m.c.1), C.tr false (T.int IntKind.i64 m.c.2),
      C.tr false (T.int IntKind.i64 m.c.3), C.tr false (T.int IntKind.i64 m.c.4),
      C.tr false (T.int IntKind.i64 m.c.5), C.tr false (T.int IntKind.i64 m.c.6), C.tr false (eL 11 Rm.cs m.2),
      C.tr false (eL 1 rowI m.3)])] fun (r18 : Ml) =>
   gd (r18.2.length.ble r18.2.length && true) <|
   gd (r18.3.length.ble r18.3.length && true) <|
   gd (r18.2.length.ble r18.2.length && true) <|
   gd (r18.3.length.ble r18.3.length && true) <|
   some ([(true, [.tr true (T.int IntKind.i64 r18.c.1), .tr true (T.int IntKind.i64 r18.c.2), .tr true (T.int IntKind.i64 r18.c.3), .tr true (T.int IntKind.i64 r18.c.4), .tr true (T.int IntKind.i64 r18.c.5), .tr true (T.int IntKind.i64 r18.c.6), .tr true (.arr (11) (r18.2.length) ((eL 11 Rm.cs r18.2).fn)), .tr true (.arr (1) (r18.3.length) ((eL 1 rowI r18.3).fn))]), (false, [.tr true (T.int IntKind.i64 5)])], [(false, []), (false, []), (false, []), (false, []), (false, [])])
  else
  bif fr then
   entK ok_sModel ea_sModel (f_sModel) [(0, true,
    [C.tr false (T.int IntKind.i64 m.c.1), C.tr false (T.int IntKind.i64 m.c.2),
      C.tr false (T.int IntKind.i64 m.c.3), C.tr false (T.int IntKind.i64 m.c.4),
      C.tr false (T.int IntKind.i64 m.c.5), C.tr false (T.int IntKind.i64 m.c.6), C.tr false (eL 11 Rm.cs m.2),
      C.tr false (eL 1 rowI m.3)])] fun (r19 : Ml) =>
   gd (r19.2.length.ble r19.2.length && true) <|
   gd (r19.3.length.ble r19.3.length && true) <|
   gd (r19.2.length.ble r19.2.length && true) <|
   gd (r19.3.length.ble r19.3.length && true) <|
   some ([(true, [.tr true (T.int IntKind.i64 r19.c.1), .tr true (T.int IntKind.i64 r19.c.2), .tr true (T.int IntKind.i64 r19.c.3), .tr true (T.int IntKind.i64 r19.c.4), .tr true (T.int IntKind.i64 r19.c.5), .tr true (T.int IntKind.i64 r19.c.6), .tr true (.arr (11) (r19.2.length) ((eL 11 Rm.cs r19.2).fn)), .tr true (.arr (1) (r19.3.length) ((eL 1 rowI r19.3).fn))]), (false, [.tr true (T.int IntKind.i64 6)])], [(false, []), (false, []), (false, []), (false, []), (false, [])])
  else
  gd (decide (0 ≤ r3.1) && (r3.1.toNat.blt r1.2.length && true)) <|
  gd ((0 + r3.1.toNat).blt r1.2.length && true &&
  T.isI IntKind.i64 (atL Rm.cs r1.2 (0 + r3.1.toNat) (6 + 0))) <|
  gd (decide (0 ≤ r3.1) && (r3.1.toNat.blt r1.2.length && true)) <|
  gd ((0 + r3.1.toNat).blt r1.2.length && true && true) <|
  bif r3.2 != 0 then
   entK ok_sModel ea_sModel (f_sModel) [(0, true,
    [C.tr false (T.int IntKind.i64 m.c.1), C.tr false (T.int IntKind.i64 m.c.2),
      C.tr false (T.int IntKind.i64 m.c.3), C.tr false (T.int IntKind.i64 m.c.4),
      C.tr false (T.int IntKind.i64 m.c.5), C.tr false (T.int IntKind.i64 m.c.6), C.tr false (eL 11 Rm.cs m.2),
      C.tr false (eL 1 rowI m.3)])] fun (r20 : Ml) =>
   gd (r20.2.length.ble r20.2.length && true) <|
   gd (r20.3.length.ble r20.3.length && true) <|
   gd (r20.2.length.ble r20.2.length && true) <|
   gd (r20.3.length.ble r20.3.length && true) <|
   some ([(true, [.tr true (T.int IntKind.i64 r20.c.1), .tr true (T.int IntKind.i64 r20.c.2), .tr true (T.int IntKind.i64 r20.c.3), .tr true (T.int IntKind.i64 r20.c.4), .tr true (T.int IntKind.i64 r20.c.5), .tr true (T.int IntKind.i64 r20.c.6), .tr true (.arr (11) (r20.2.length) ((eL 11 Rm.cs r20.2).fn)), .tr true (.arr (1) (r20.3.length) ((eL 1 rowI r20.3).fn))]), (false, [.tr true (T.int IntKind.i64 r3.2)])], [(false, []), (false, []), (false, []), (false, []), (false, [])])
  else
  gd (decide (0 ≤ r3.1) && (r3.1.toNat.blt r1.2.length && true)) <|
  gd ((0 + r3.1.toNat).blt r1.2.length && true &&
  ((setF (0 + r3.1.toNat) 6
        (T.int IntKind.i64 (IntKind.i64.wrap ((atL Rm.cs r1.2 (0 + r3.1.toNat) 6).toI + r16)))
        (eL 11 Rm.cs r1.2).fn (0 + r3.1.toNat) (9 + 0)).isArr &&
    (setF (0 + r3.1.toNat) 6
            (T.int IntKind.i64 (IntKind.i64.wrap ((atL Rm.cs r1.2 (0 + r3.1.toNat) 6).toI + r16)))
            (eL 11 Rm.cs r1.2).fn (0 + r3.1.toNat) (9 + 0)).wd.beq
      1)) <|
  entK ok_sZeros ea_sZeros (f_sZeros) [(0, false, [C.tr false (T.int IntKind.i64 sz)])] fun (r21 : List UInt8) =>
  gd (r21.length.ble r21.length && true) <|
  gd (r21.length.ble r21.length && true) <|
  gd ((0 + r3.1.toNat).blt r1.2.length && true && true &&
  ((T.arr 11 r1.2.length
          (setF (0 + r3.1.toNat) 6
            (T.int IntKind.i64 (IntKind.i64.wrap ((atL Rm.cs r1.2 (0 + r3.1.toNat) 6).toI + r16)))
            (eL 11 Rm.cs r1.2).fn)).get
      [0 + r3.1.toNat, 9 + 0]).isArr) <|
  gd ((setF (0 + r3.1.toNat) 6
          (T.int IntKind.i64 (IntKind.i64.wrap ((atL Rm.cs r1.2 (0 + r3.1.toNat) 6).toI + r16)))
          (eL 11 Rm.cs r1.2).fn (0 + r3.1.toNat) (9 + 0)).ln.ble
    ((T.arr 11 r1.2.length
            (setF (0 + r3.1.toNat) 6
              (T.int IntKind.i64 (IntKind.i64.wrap ((atL Rm.cs r1.2 (0 + r3.1.toNat) 6).toI + r16)))
              (eL 11 Rm.cs r1.2).fn)).get
        [0 + r3.1.toNat, 9 + 0]).ln &&
  Nat.beq 1
    ((T.arr 11 r1.2.length
            (setF (0 + r3.1.toNat) 6
              (T.int IntKind.i64 (IntKind.i64.wrap ((atL Rm.cs r1.2 (0 + r3.1.toNat) 6).toI + r16)))
              (eL 11 Rm.cs r1.2).fn)).get
        [0 + r3.1.toNat, 9 + 0]).wd) <|
  gd ((((setF (0 + r3.1.toNat) 6
              (T.int IntKind.i64 (IntKind.i64.wrap ((atL Rm.cs r1.2 (0 + r3.1.toNat) 6).toI + r16)))
              (eL 11 Rm.cs r1.2).fn (0 + r3.1.toNat) (9 + 0)).ln +
          1) *
        24).ble
    70368744177664 &&
  ((setF (0 + r3.1.toNat) 6
            (T.int IntKind.i64 (IntKind.i64.wrap ((atL Rm.cs r1.2 (0 + r3.1.toNat) 6).toI + r16)))
            (eL 11 Rm.cs r1.2).fn (0 + r3.1.toNat) (9 + 0)).ln +
        1).ble
    70368744177664) <|
  gd (decide (0 ≤ r3.1) && (r3.1.toNat.blt r1.2.length && true)) <|
  gd (((setF (0 + r3.1.toNat) 6
            (T.int IntKind.i64 (IntKind.i64.wrap ((atL Rm.cs r1.2 (0 + r3.1.toNat) 6).toI + r16)))
            (eL 11 Rm.cs r1.2).fn (0 + r3.1.toNat) (9 + 0)).ln +
        1).ble
    ((setF (0 + r3.1.toNat) 6
          (T.int IntKind.i64 (IntKind.i64.wrap ((atL Rm.cs r1.2 (0 + r3.1.toNat) 6).toI + r16)))
          (eL 11 Rm.cs r1.2).fn (0 + r3.1.toNat) (9 + 0)).ln +
      1) &&
  true) <|
  gd ((0 + r3.1.toNat).blt r1.2.length && true && true) <|
  gd (r1.2.length.ble r1.2.length && true) <|
  gd (r1.3.length.ble r1.3.length && true) <|
  gd (r1.2.length.ble r1.2.length && true) <|
  gd (r1.3.length.ble r1.3.length && true) <|
  some ([(true, [.tr true (T.int IntKind.i64 r1.c.1), .tr true (T.int IntKind.i64 r1.c.2), .tr true (T.int IntKind.i64 r1.c.3), .tr true (T.int IntKind.i64 r1.c.4), .tr true (T.int IntKind.i64 r1.c.5), .tr true (T.int IntKind.i64 r1.c.6), .tr true (.arr (11) (r1.2.length) (setF (0 + r3.1.toNat) 9
  (T.arr 1
    ((setF (0 + r3.1.toNat) 6
          (T.int IntKind.i64 (IntKind.i64.wrap ((atL Rm.cs r1.2 (0 + r3.1.toNat) 6).toI + r16)))
          (eL 11 Rm.cs r1.2).fn (0 + r3.1.toNat) 9).ln +
      1)
    (appF
      (setF (0 + r3.1.toNat) 6
          (T.int IntKind.i64 (IntKind.i64.wrap ((atL Rm.cs r1.2 (0 + r3.1.toNat) 6).toI + r16)))
          (eL 11 Rm.cs r1.2).fn (0 + r3.1.toNat) 9).ln
      ((T.arr 11 r1.2.length
              (setF (0 + r3.1.toNat) 6
                (T.int IntKind.i64
                  (IntKind.i64.wrap ((atL Rm.cs r1.2 (0 + r3.1.toNat) 6).toI + r16)))
                (eL 11 Rm.cs r1.2).fn)).get
          [0 + r3.1.toNat, 9]).fn
      (rowsT [[T.arr 1 r21.length (atL rowB r21)]])))
  (setF (0 + r3.1.toNat) 9 T.hole
    (setF (0 + r3.1.toNat) 6
      (T.int IntKind.i64 (IntKind.i64.wrap ((atL Rm.cs r1.2 (0 + r3.1.toNat) 6).toI + r16)))
      (eL 11 Rm.cs r1.2).fn)))), .tr true (.arr (1) (r1.3.length) ((eL 1 rowI r1.3).fn))]), (false, [.tr true (T.int IntKind.i64 0)])], [(false, []), (false, []), (false, []), (false, []), (false, [])])
 else
 gd (r1.2.length.ble r1.2.length && true) <|
 gd (r1.3.length.ble r1.3.length && true) <|
 gd (r1.2.length.ble r1.2.length && true) <|
 gd (r1.3.length.ble r1.3.length && true) <|
 some ([(true, [.tr true (T.int IntKind.i64 r1.c.1), .tr true (T.int IntKind.i64 r1.c.2), .tr true (T.int IntKind.i64 r1.c.3), .tr true (T.int IntKind.i64 r1.c.4), .tr true (T.int IntKind.i64 r1.c.5), .tr true (T.int IntKind.i64 r1.c.6), .tr true (.arr (11) (r1.2.length) ((eL 11 Rm.cs r1.2).fn)), .tr true (.arr (1) (r1.3.length) ((eL 1 rowI r1.3).fn))]), (false, [.tr true (T.int IntKind.i64 1)])], [(false, []), (false, []), (false, []), (false, []), (false, [])])) := by kernel_rfl
end Go.Mach.F
namespace Go.Mach.F
open Go Go.Mach Go.Proofs.Try
theorem app_thing {l : List Rm} {j : Nat} {y : Rm} (hy : l[j]? = some y) (b : List UInt8) : setF j 9 (T.arr 1 (y.things.length + 1) (appF y.things.length (atL Sf.cs y.things) (rowsT [[T.arr 1 b.length (atL rowB b)]]))) (setF j 9 T.hole (atL Rm.cs l)) = atL Rm.cs (l.set j { y with things := y.things ++ [⟨b⟩] }) := by
  rw [setF_setF, show [T.arr 1 b.length (atL rowB b)] = Sf.cs ⟨b⟩ from rfl, rows1 Sf.cs, appF_app]
  exact setF_list hy (by simp only [Rm.cs, eL_T, List.length_append]; rfl) (by decide : 9 < 11)
theorem zero5 (n : Nat) : cutT 0 n (zeroT prog 5) = atL rowB (List.replicate n 0) := zero_fill (m := 1) (row := rowB) (d := 0) n (fun j k => by rcases k with _ | _ <;> kernel_rfl)
theorem szOk_of {sz al : Int} (h : szOk sz al = true) : (1 ≤ sz ∧ sz ≤ 200) ∧ isAl al = true := by
  simp only [szOk, inR, Bool.and_eq_true, decide_eq_true_eq] at h
  exact h
theorem body_iEagerAlloc (m : Ml) (h : Hd) (sz al : Int) (fr : Bool) (n : Nat) (h0 : ok_iEagerAlloc (m, h, sz, al, fr)) : body prog (tabS [(i_iModel, e_iModel), (i_iSzOk, e_iSzOk), (i_iRsv, e_iRsv), (i_isLg, e_isLg), (i_iCF, e_iCF), (i_itakes, e_itakes), (i_iAlignUp, e_iAlignUp)]) kp_iEagerAlloc n F_iEagerAlloc (ea_iEagerAlloc (m, h, sz, al, fr)) = some ([oR (f_iEagerAlloc (m, h, sz, al, fr)).1.cs, oT (.int .i64 (f_iEagerAlloc (m, h, sz, al, fr)).2)], [nul, nul, nul, nul, nul]) := by
  have hlm := lm
  obtain ⟨h1, h2⟩ : ok_RmS m.rooms ∧ ok_LI m.log := h0
  have hl : m.rooms.length ≤ LM := h1.1
  have c0 : ok_iModel m := ⟨h1, h2⟩
  have c1 : ok_iRsv (m, h) := hl
  have c2 : ok_iTakenBy m := hl
  have c4 : ok_iCeilDiv (sz, m.c.size) := trivial
  unfold ea_iEagerAlloc f_iEagerAlloc alcM
  dsimp only
  rw [pre_iEagerAlloc]
  simp only [eL_T, Ml.cs, Hd.cs]
  rw [entK_of (dm_iModel c0) (iv_iModel c0)]
  simp only [d_iModel, lt_d, ge0_d, Int.toNat_natCast, blt_d, ble_self, beq_self, decide_true, cond_true, Bool.and_self, Bool.and_true, Bool.true_and, gd_true, Nat.zero_add, List.getD_cons_zero, List.getD_cons_succ, isI_int, toI_int, isB_bool, toB_bool, eL_T, arr_ln, arr_fn, arr_wd, arr_is, arr_get, ble_d, Nat.le_refl]
  have c6 : ok_iSzOk (sz, al) := trivial
  rw [entK_of (dm_iSzOk c6) (iv_iSzOk c6)]
  simp only [d_iSzOk]
  cases hsz : szOk sz al with
  | false =>
    simp only [Bool.not_false, cond_true, cond_false]
    rfl
  | true =>
  have hz := (szOk_of hsz).1
  simp only [Bool.not_true, cond_true, cond_false]
  rw [entK_of (dm_iRsv c1) (iv_iRsv c1)]
  simp only [d_iRsv, int_ne, int_eq]
  by_cases e : (rsv m h).2 = 0
  case neg =>
    simp only [e, decide_false, Bool.not_false, cond_true, cond_false]
    rfl
  have hk := rsv_ok e
  have hx := getD_get hk.2
  unfold alcR needC rmJ
  obtain ⟨x, hxe⟩ : ∃ x, x = m.rooms.getD (rsv m h).1.toNat zRm := ⟨_, rfl⟩
  rw [← hxe] at hx ⊢
  have hy := h1.2 _ (List.mem_of_getElem? hx)
  have hg : x.things.length ≤ LM := hy.2.1.1
  have e0 := hk.1
  have e1 := hk.2
  have s1 : (x.things.length + 1) * 24 ≤ 70368744177664 := by omega
  have s2 : x.things.length + 1 ≤ 70368744177664 := by omega
  have s3 : sz.toNat * 1 ≤ 70368744177664 := by omega
  have s4 : sz.toNat ≤ 70368744177664 := by omega
  have s5 : 0 ≤ sz := by omega
  have c3 : ok_iAlignUp (x.bump, al) := trivial
  have c5 : ok_iAlignUp (0, al) := trivial
  have h6 : ∀ b : Int, setF (rsv m h).1.toNat 6 (.int .i64 (IntKind.i64.wrap (x.chunks + b))) (atL Rm.cs m.rooms) = atL Rm.cs (m.rooms.set (rsv m h).1.toNat (bigR x b)) := fun b => setF_list hx rfl (by decide : 6 < 11)
  have hb6 : ∀ b : Int, (m.rooms.set (rsv m h).1.toNat (bigR x b))[(rsv m h).1.toNat]? = some (bigR x b) := fun b => set_get hx
  have h9 : ∀ (y : Rm) (b : List UInt8), setF (rsv m h).1.toNat 9 (T.arr 1 (y.things.length + 1) (appF y.things.length (atL Sf.cs y.things) (rowsT [[T.arr 1 b.length (atL rowB b)]]))) (setF (rsv m h).1.toNat 9 T.hole (atL Rm.cs (m.rooms.set (rsv m h).1.toNat y))) = atL Rm.cs (m.rooms.set (rsv m h).1.toNat { y with things := y.things ++ [⟨b⟩] }) := fun y b => by
    rw [app_thing (set_get hx), List.set_set]
  simp only [lt_d, ge0_d, Int.toNat_natCast, blt_d, ble_self, beq_self, decide_true, cond_true, Bool.and_self, Bool.and_true, Bool.true_and, gd_true, Nat.zero_add, List.getD_cons_zero, List.getD_cons_succ, isI_int, toI_int, isB_bool, toB_bool, eL_T, arr_ln, arr_fn, arr_wd, arr_is, arr_get, e, e0, e1, Nat.add_zero, atL_of hx, Rm.cs, T.get, ble_d, Nat.le_refl, Int.le_refl, zero5, s1, s2, s3, s4, s5]
  by_cases a3 : 12 ≤ (x.things.length : Int)
  · simp only [a3, decide_true, cond_true, int_eq]
    rfl
  simp only [a3, decide_false, cond_false, setJ]
  by_cases a4 : m.c.size < sz
  · simp only [a4, decide_true, cond_true]
    rw [entK_of (dm_iCeilDiv c4) (iv_iCeilDiv c4)]
    simp only [d_iCeilDiv]
    rw [entK_of (dm_iTakenBy c2) (iv_iTakenBy c2)]
    simp only [d_iTakenBy]
    by_cases a5 : m.c.chunks < IntKind.i64.wrap (tkn m.rooms + cdv sz m.c.size)
    · simp only [a5, decide_true, cond_true]
      rfl
    simp only [a5, decide_false, cond_false]
    cases fr with
    | true => rfl
    | false =>
      have hh := h9 (bigR x (cdv sz m.c.size)) (List.replicate sz.toNat 0)
      have s6 : ((bigR x (cdv sz m.c.size)).things.length + 1) * 24 ≤ 70368744177664 := s1
      have s7 : (bigR x (cdv sz m.c.size)).things.length + 1 ≤ 70368744177664 := s2
      simp only [List.length_replicate] at hh
      simp only [cond_false, h6, atL_of (hb6 _), Rm.cs, lt_d, ge0_d, Int.toNat_natCast, blt_d, ble_self, beq_self, decide_true, cond_true, Bool.and_self, Bool.and_true, Bool.true_and, gd_true, Nat.zero_add, List.getD_cons_zero, List.getD_cons_succ, isI_int, toI_int, isB_bool, toB_bool, eL_T, arr_ln, arr_fn, arr_wd, arr_is, arr_get, Nat.le_refl, ble_d, s6, s7, hh, T.get, e1, Bool.not_false]
      simp only [oR, Ml.cs, thgR, eL_T, List.length_set]
      rfl
  simp only [a4, decide_false, cond_false]
  have h8 : ∀ b : Int, setF (rsv m h).1.toNat 8 (.int .i64 b) (setF (rsv m h).1.toNat 8 (.int .i64 0) (setF (rsv m h).1.toNat 7 (.bool true) (setF (rsv m h).1.toNat 6 (.int .i64 (IntKind.i64.wrap (x.chunks + 1))) (atL Rm.cs m.rooms)))) = atL Rm.cs (m.rooms.set (rsv m h).1.toNat { x with chunks := IntKind.i64.wrap (x.chunks + 1), cur := true, bump := b }) := fun b => by
    rw [setF_setF, h6, setF_list (y := { x with chunks := IntKind.i64.wrap (x.chunks + 1), cur := true }) (set_get hx) rfl (by decide : 7 < 11), List.set_set,
      setF_list (y := { x with chunks := IntKind.i64.wrap (x.chunks + 1), cur := true, bump := b }) (set_get hx) rfl (by decide : 8 < 11), List.set_set]
  have hb8 : ∀ b : Int, (m.rooms.set (rsv m h).1.toNat { x with chunks := IntKind.i64.wrap (x.chunks + 1), cur := true, bump := b })[(rsv m h).1.toNat]? = some { x with chunks := IntKind.i64.wrap (x.chunks + 1), cur := true, bump := b } := fun b => set_get hx
  have h8b : ∀ b : Int, setF (rsv m h).1.toNat 8 (.int .i64 b) (atL Rm.cs m.rooms) = atL Rm.cs (m.rooms.set (rsv m h).1.toNat { x with bump := b }) := fun b => setF_list hx rfl (by decide : 8 < 11)
  have hb8b : ∀ b : Int, (m.rooms.set (rsv m h).1.toNat { x with bump := b })[(rsv m h).1.toNat]? = some { x with bump := b } := fun b => set_get hx
  have new : ∀ (b : Int), _ := fun b => h9 { x with chunks := IntKind.i64.wrap (x.chunks + 1), cur := true, bump := b } (List.replicate sz.toNat 0)
  have old : ∀ (b : Int), _ := fun b => h9 { x with bump := b } (List.replicate sz.toNat 0)
  simp only [List.length_replicate] at new old
  cases hc : x.cur with
  | false =>
    simp only [Bool.not_false, cond_true, Bool.true_or, Bool.true_and]
    rw [entK_of (dm_iTakenBy c2) (iv_iTakenBy c2)]
    simp only [d_iTakenBy]
    by_cases a5 : m.c.chunks < IntKind.i64.wrap (tkn m.rooms + 1)
    · simp only [a5, decide_true, cond_true]
      rfl
    simp only [a5, decide_false, cond_false, setF_at, isI_int, toI_int, gd_true]
    rw [entK_of (dm_iAlignUp c5) (iv_iAlignUp c5)]
    simp only [d_iAlignUp, h8, atL_of (hb8 _), Rm.cs, lt_d, ge0_d, Int.toNat_natCast, blt_d, ble_self, beq_self, decide_true, cond_true, Bool.and_self, Bool.and_true, Bool.true_and, gd_true, Nat.zero_add, List.getD_cons_zero, List.getD_cons_succ, isI_int, toI_int, isB_bool, toB_bool, eL_T, arr_ln, arr_fn, arr_wd, arr_is, arr_get, Nat.le_refl, ble_d, s1, s2, new, T.get, e1]
    simp only [oR, Ml.cs, thgR, smlR, cond_true, eL_T, List.length_set]
    rfl
  | true =>
    simp only [Bool.not_true, cond_false, Bool.false_or]
    rw [entK_of (dm_iAlignUp c3) (iv_iAlignUp c3)]
    simp only [d_iAlignUp]
    by_cases a6 : m.c.size < IntKind.i64.wrap (aup x.bump al + sz)
    · simp only [a6, decide_true, cond_true, Bool.true_and]
      rw [entK_of (dm_iTakenBy c2) (iv_iTakenBy c2)]
      simp only [d_iTakenBy]
      by_cases a5 : m.c.chunks < IntKind.i64.wrap (tkn m.rooms + 1)
      · simp only [a5, decide_true, cond_true]
        rfl
      simp only [a5, decide_false, cond_false, setF_at, isI_int, toI_int, gd_true]
      rw [entK_of (dm_iAlignUp c5) (iv_iAlignUp c5)]
      simp only [d_iAlignUp, h8, atL_of (hb8 _), Rm.cs, lt_d, ge0_d, Int.toNat_natCast, blt_d, ble_self, beq_self, decide_true, cond_true, Bool.and_self, Bool.and_true, Bool.true_and, gd_true, Nat.zero_add, List.getD_cons_zero, List.getD_cons_succ, isI_int, toI_int, isB_bool, toB_bool, eL_T, arr_ln, arr_fn, arr_wd, arr_is, arr_get, Nat.le_refl, ble_d, s1, s2, new, T.get, e1]
      simp only [oR, Ml.cs, thgR, smlR, cond_true, eL_T, List.length_set]
      rfl
    simp only [a6, decide_false, cond_false, Bool.false_and]
    rw [entK_of (dm_iAlignUp c3) (iv_iAlignUp c3)]
    simp only [d_iAlignUp, h8b, atL_of (hb8b _), Rm.cs, lt_d, ge0_d, Int.toNat_natCast, blt_d, ble_self, beq_self, decide_true, cond_true, Bool.and_self, Bool.and_true, Bool.true_and, gd_true, Nat.zero_add, List.getD_cons_zero, List.getD_cons_succ, isI_int, toI_int, isB_bool, toB_bool, eL_T, arr_ln, arr_fn, arr_wd, arr_is, arr_get, Nat.le_refl, ble_d, s1, s2, old, T.get, e1]
    simp only [oR, Ml.cs, thgR, smlR, cond_false, eL_T, List.length_set]
    rfl
theorem s_iEagerAlloc : EntOk prog i_iEagerAlloc e_iEagerAlloc := ent_ok ea_iEagerAlloc_inj fun x hx =>
  body_sound (φ := (tabS [(i_iModel, e_iModel), (i_iSzOk, e_iSzOk), (i_iRsv, e_iRsv), (i_isLg, e_isLg), (i_iCF, e_iCF), (i_itakes, e_itakes), (i_iAlignUp, e_iAlignUp)])) (tabS_cons s_iModel (tabS_cons s_iSzOk (tabS_cons s_iRsv (tabS_cons s_isLg (tabS_cons s_iCF (tabS_cons s_itakes (tabS_cons s_iAlignUp tabS_nil))))))) mixed (kp := kp_iEagerAlloc) (n := 0) func59 (c := bodyOf F_iEagerAlloc) (by kernel_rfl) (body_iEagerAlloc x.1 x.2.1 x.2.2.1 x.2.2.2.1 x.2.2.2.2 (0) hx) (name_ok (by kernel_rfl))
theorem smlR_things (x : Rm) (b : Bool) (sz al : Int) : (smlR x b sz al).things = x.things := by cases b <;> rfl
theorem zer_of {sz : Int} (h : 1 ≤ sz ∧ sz ≤ 200) : zer sz = List.replicate sz.toNat 0 := by
  have a : 0 ≤ sz := by omega
  have b : sz ≤ 4096 := by omega
  simp only [zer, inR, a, b, decide_true, Bool.and_self, cond_true]
theorem body_sEagerAlloc (m : Ml) (h : Hd) (sz al : Int) (fr : Bool) (n : Nat) (h0 : ok_sEagerAlloc (m, h, sz, al, fr)) : body prog (tabS [(i_sModel, e_sModel), (i_l1In, e_l1In), (i_sAlg, e_sAlg), (i_sRsv, e_sRsv), (i_ssLg, e_ssLg), (i_sSml, e_sSml), (i_sCF, e_sCF), (i_sTakenBy, e_sTakenBy), (i_sZeros, e_sZeros)]) kp_sEagerAlloc n F_sEagerAlloc (ea_sEagerAlloc (m, h, sz, al, fr)) = some ([oR (f_sEagerAlloc (m, h, sz, al, fr)).1.cs, oT (.int .i64 (f_sEagerAlloc (m, h, sz, al, fr)).2)], [nul, nul, nul, nul, nul]) := by
  have hlm := lm
  obtain ⟨h1, h2⟩ : ok_RmS m.rooms ∧ ok_LI m.log := h0
  have hl : m.rooms.length ≤ LM := h1.1
  have c0 : ok_sModel m := ⟨h1, h2⟩
  have c1 : ok_sRsv (m, h) := hl
  have c2 : ok_sTakenBy m := hl
  have c4 : ok_sCeilDiv (sz, m.c.size) := trivial
  unfold ea_sEagerAlloc f_sEagerAlloc alcM
  dsimp only
  rw [pre_sEagerAlloc]
  simp only [eL_T, Ml.cs, Hd.cs]
  rw [entK_of (dm_sModel c0) (iv_sModel c0)]
  simp only [d_sModel, lt_d, ge0_d, Int.toNat_natCast, blt_d, ble_self, beq_self, decide_true, cond_true, Bool.and_self, Bool.and_true, Bool.true_and, gd_true, Nat.zero_add, List.getD_cons_zero, List.getD_cons_succ, isI_int, toI_int, isB_bool, toB_bool, eL_T, arr_ln, arr_fn, arr_wd, arr_is, arr_get, ble_d, Nat.le_refl]
  have c6 : ok_sAlg al := trivial
  have c8 : ok_sZeros sz := trivial
  by_cases z1 : 1 ≤ sz
  case neg =>
    rw [show szOk sz al = false by simp only [szOk, inR, z1, decide_false, Bool.false_and]]
    simp only [z1, decide_false, cond_false]
    rfl
  by_cases z2 : sz ≤ 200
  case neg =>
    rw [show szOk sz al = false by simp only [szOk, inR, z2, decide_false, Bool.and_false, Bool.false_and]]
    simp only [z1, z2, decide_true, decide_false, cond_true, cond_false, Bool.not_false]
    rfl
  simp only [z1, z2, decide_true, cond_true, cond_false, Bool.not_true]
  rw [entK_of (dm_sAlg c6) (iv_sAlg c6)]
  simp only [d_sAlg]
  rw [show szOk sz al = isAl al by simp only [szOk, inR, z1, z2, decide_true, Bool.true_and]]
  have hz : 1 ≤ sz ∧ sz ≤ 200 := ⟨z1, z2⟩
  cases hal : isAl al with
  | false =>
    simp only [Bool.not_false, cond_true, cond_false]
    rfl
  | true =>
  simp only [Bool.not_true, cond_true, cond_false]
  rw [entK_of (dm_sRsv c1) (iv_sRsv c1)]
  simp only [d_sRsv, int_ne, int_eq]
  by_cases e : (rsv m h).2 = 0
  case neg =>
    simp only [e, decide_false, Bool.not_false, cond_true, cond_false]
    rfl
  have hk := rsv_ok e
  have hx := getD_get hk.2
  unfold alcR needC rmJ
  obtain ⟨x, hxe⟩ : ∃ x, x = m.rooms.getD (rsv m h).1.toNat zRm := ⟨_, rfl⟩
  rw [← hxe] at hx ⊢
  have hy := h1.2 _ (List.mem_of_getElem? hx)
  have hg : x.things.length ≤ LM := hy.2.1.1
  have e0 := hk.1
  have e1 := hk.2
  have s1 : (x.things.length + 1) * 24 ≤ 70368744177664 := by omega
  have s2 : x.things.length + 1 ≤ 70368744177664 := by omega
  have s3 : sz.toNat * 1 ≤ 70368744177664 := by omega
  have s4 : sz.toNat ≤ 70368744177664 := by omega
  have s5 : 0 ≤ sz := by omega
  have c3 : ok_sAlignUp (x.bump, al) := trivial
  have c5 : ok_sAlignUp (0, al) := trivial
  have h6 : ∀ b : Int, setF (rsv m h).1.toNat 6 (.int .i64 (IntKind.i64.wrap (x.chunks + b))) (atL Rm.cs m.rooms) = atL Rm.cs (m.rooms.set (rsv m h).1.toNat (bigR x b)) := fun b => setF_list hx rfl (by decide : 6 < 11)
  have hb6 : ∀ b : Int, (m.rooms.set (rsv m h).1.toNat (bigR x b))[(rsv m h).1.toNat]? = some (bigR x b) := fun b => set_get hx
  have h9 : ∀ (y : Rm) (b : List UInt8), setF (rsv m h).1.toNat 9 (T.arr 1 (y.things.length + 1) (appF y.things.length (atL Sf.cs y.things) (rowsT [[T.arr 1 b.length (atL rowB b)]]))) (setF (rsv m h).1.toNat 9 T.hole (atL Rm.cs (m.rooms.set (rsv m h).1.toNat y))) = atL Rm.cs (m.rooms.set (rsv m h).1.toNat { y with things := y.things ++ [⟨b⟩] }) := fun y b => by
    rw [app_thing (set_get hx), List.set_set]
  simp only [lt_d, ge0_d, Int.toNat_natCast, blt_d, ble_self, beq_self, decide_true, cond_true, Bool.and_self, Bool.and_true, Bool.true_and, gd_true, Nat.zero_add, List.getD_cons_zero, List.getD_cons_succ, isI_int, toI_int, isB_bool, toB_bool, eL_T, arr_ln, arr_fn, arr_wd, arr_is, arr_get, e, e0, e1, Nat.add_zero, atL_of hx, Rm.cs, T.get, ble_d, Nat.le_refl, Int.le_refl, zero5, s1, s2, s3, s4, s5]
  by_cases a3 : 12 ≤ (x.things.length : Int)
  · simp only [a3, decide_true, cond_true, int_eq]
    rfl
  simp only [a3, decide_false, cond_false, setJ]
  have hz0 := zer_of hz
  by_cases a4 : m.c.size < sz
  · simp only [a4, decide_true, Bool.not_true, cond_false, cond_true]
    rw [entK_of (dm_sCeilDiv c4) (iv_sCeilDiv c4)]
    simp only [d_sCeilDiv]
    rw [entK_of (dm_sTakenBy c2) (iv_sTakenBy c2)]
    simp only [d_sTakenBy]
    by_cases a5 : m.c.chunks < IntKind.i64.wrap (tkn m.rooms + cdv sz m.c.size)
    · simp only [a5, decide_true, cond_true]
      rw [entK_of (dm_sModel c0) (iv_sModel c0)]
      simp only [d_sModel, lt_d, ge0_d, Int.toNat_natCast, blt_d, ble_self, beq_self, decide_true, cond_true, Bool.and_self, Bool.and_true, Bool.true_and, gd_true, Nat.zero_add, List.getD_cons_zero, List.getD_cons_succ, isI_int, toI_int, isB_bool, toB_bool, eL_T, arr_ln, arr_fn, arr_wd, arr_is, arr_get, ble_d, Nat.le_refl]
      rfl
    simp only [a5, decide_false, cond_false]
    cases fr with
    | true =>
      simp only [cond_true]
      rw [entK_of (dm_sModel c0) (iv_sModel c0)]
      simp only [d_sModel, lt_d, ge0_d, Int.toNat_natCast, blt_d, ble_self, beq_self, decide_true, cond_true, Bool.and_self, Bool.and_true, Bool.true_and, gd_true, Nat.zero_add, List.getD_cons_zero, List.getD_cons_succ, isI_int, toI_int, isB_bool, toB_bool, eL_T, arr_ln, arr_fn, arr_wd, arr_is, arr_get, ble_d, Nat.le_refl]
      rfl
    | false =>
      have hh := h9 (bigR x (cdv sz m.c.size)) (List.replicate sz.toNat 0)
      have s6 : ((bigR x (cdv sz m.c.size)).things.length + 1) * 24 ≤ 70368744177664 := s1
      have s7 : (bigR x (cdv sz m.c.size)).things.length + 1 ≤ 70368744177664 := s2
      simp only [cond_false, h6, atL_of (hb6 _), Rm.cs, lt_d, ge0_d, Int.toNat_natCast, blt_d, ble_self, beq_self, decide_true, cond_true, Bool.and_self, Bool.and_true, Bool.true_and, gd_true, Nat.zero_add, List.getD_cons_zero, List.getD_cons_succ, isI_int, toI_int, isB_bool, toB_bool, eL_T, arr_ln, arr_fn, arr_wd, arr_is, arr_get, Nat.le_refl, ble_d, T.get, e1, Bool.not_false]
      rw [entK_of (dm_sZeros c8) (iv_sZeros c8)]
      simp only [d_sZeros, hz0, lt_d, ge0_d, Int.toNat_natCast, blt_d, ble_self, beq_self, decide_true, cond_true, Bool.and_self, Bool.and_true, Bool.true_and, gd_true, Nat.zero_add, List.getD_cons_zero, List.getD_cons_succ, isI_int, toI_int, isB_bool, toB_bool, eL_T, arr_ln, arr_fn, arr_wd, arr_is, arr_get, Nat.le_refl, ble_d, s6, s7, hh, e1]
      simp only [oR, Ml.cs, thgR, eL_T, List.length_set]
      rfl
  simp only [a4, decide_false, Bool.not_false, cond_false, cond_true]
  have c7 : ok_sSml (m, (rsv m h).1, sz, al) := ⟨hl, e0, e1⟩
  rw [entK_of (dm_sSml c7) (iv_sSml c7)]
  have hsm : smlM m (rsv m h).1 sz al = bif (!x.cur || decide (m.c.size < IntKind.i64.wrap (aup x.bump al + sz))) && decide (m.c.chunks < IntKind.i64.wrap (tkn m.rooms + 1)) then (m, 5) else (setJ m (rsv m h).1 (smlR x (!x.cur || decide (m.c.size < IntKind.i64.wrap (aup x.bump al + sz))) sz al), 0) := by
    unfold smlM needC rmJ
    rw [← hxe]
  simp only [d_sSml, hsm]
  generalize (!x.cur || decide (m.c.size < IntKind.i64.wrap (aup x.bump al + sz))) = N
  cases (N && decide (m.c.chunks < IntKind.i64.wrap (tkn m.rooms + 1))) with
  | true =>
    simp only [cond_true, show ¬ (5 : Int) = 0 by decide, decide_false, Bool.not_false]
    rw [entK_of (dm_sModel c0) (iv_sModel c0)]
    simp only [d_sModel, lt_d, ge0_d, Int.toNat_natCast, blt_d, ble_self, beq_self, decide_true, cond_true, Bool.and_self, Bool.and_true, Bool.true_and, gd_true, Nat.zero_add, List.getD_cons_zero, List.getD_cons_succ, isI_int, toI_int, isB_bool, toB_bool, eL_T, arr_ln, arr_fn, arr_wd, arr_is, arr_get, ble_d, Nat.le_refl]
    rfl
  | false =>
    have hb := set_get (y := smlR x N sz al) hx
    have ht := smlR_things x N sz al
    have hh := h9 (smlR x N sz al) (List.replicate sz.toNat 0)
    rw [ht] at hh
    simp only [cond_false, setJ, decide_true, Bool.not_true, lt_d, ge0_d, Int.toNat_natCast, blt_d, ble_self, beq_self, decide_true, cond_true, Bool.and_self, Bool.and_true, Bool.true_and, gd_true, Nat.zero_add, List.getD_cons_zero, List.getD_cons_succ, isI_int, toI_int, isB_bool, toB_bool, eL_T, arr_ln, arr_fn, arr_wd, arr_is, arr_get, atL_of hb, Rm.cs, ht, List.length_set, e1, T.get, s1, s2, ble_d, Nat.le_refl]
    rw [entK_of (dm_sZeros c8) (iv_sZeros c8)]
    simp only [d_sZeros, hz0, lt_d, ge0_d, Int.toNat_natCast, blt_d, ble_self, beq_self, decide_true, cond_true, Bool.and_self, Bool.and_true, Bool.true_and, gd_true, Nat.zero_add, List.getD_cons_zero, List.getD_cons_succ, isI_int, toI_int, isB_bool, toB_bool, eL_T, arr_ln, arr_fn, arr_wd, arr_is, arr_get, Nat.le_refl, ble_d, s1, s2, hh, e1, List.length_set]
    simp only [oR, Ml.cs, thgR, ht, eL_T, List.length_set]
    rfl
theorem s_sEagerAlloc : EntOk prog i_sEagerAlloc e_sEagerAlloc := ent_ok ea_sEagerAlloc_inj fun x hx =>
  body_sound (φ := (tabS [(i_sModel, e_sModel), (i_l1In, e_l1In), (i_sAlg, e_sAlg), (i_sRsv, e_sRsv), (i_ssLg, e_ssLg), (i_sSml, e_sSml), (i_sCF, e_sCF), (i_sTakenBy, e_sTakenBy), (i_sZeros, e_sZeros)])) (tabS_cons s_sModel (tabS_cons s_l1In (tabS_cons s_sAlg (tabS_cons s_sRsv (tabS_cons s_ssLg (tabS_cons s_sSml (tabS_cons s_sCF (tabS_cons s_sTakenBy (tabS_cons s_sZeros tabS_nil))))))))) mixed (kp := kp_sEagerAlloc) (n := 0) func58 (c := bodyOf F_sEagerAlloc) (by kernel_rfl) (body_sEagerAlloc x.1 x.2.1 x.2.2.1 x.2.2.2.1 x.2.2.2.2 (0) hx) (name_ok (by kernel_rfl))
end Go.Mach.F
namespace Go.Mach.F
open Go Go.Mach Go.Proofs.Try
--=set_option maxRecDepth 100000
theorem Nd.cs_inj (x y : Nd) (h : ∀ k, x.cs.getD k .hole = y.cs.getD k .hole) : x = y := by
  have h0 := h 0; have h1 := h 1; have h2 := h 2; have h3 := h 3; have h4 := h 4; have h5 := h 5; have h6 := h 6; have h7 := h 7; have h8 := h 8; have h9 := h 9; have h10 := h 10; have h11 := h 11; have h12 := h 12
  rcases x with ⟨x0, x1, x2, x3, x4, x5, x6, x7, x8, x9, x10, x11, x12⟩
  rcases y with ⟨y0, y1, y2, y3, y4, y5, y6, y7, y8, y9, y10, y11, y12⟩
  simp only [Nd.cs, List.getD_cons_zero, List.getD_cons_succ, T.int.injEq, T.bool.injEq, true_and] at h0 h1 h2 h3 h4 h5 h6 h7 h8 h9 h10 h11 h12
  replace h8 := eI_inj h8
  replace h11 := eL_inj Th.cs_inj h11
  replace h12 := eI_inj h12
  subst h0; subst h1; subst h2; subst h3; subst h4; subst h5; subst h6; subst h7; subst h8; subst h9; subst h10; subst h11; subst h12
  rfl
theorem Ws.cs_inj (x y : Ws) (h : ∀ k, x.cs.getD k .hole = y.cs.getD k .hole) : x = y := by
  have h0 := h 0; have h1 := h 1; have h2 := h 2; have h3 := h 3; have h4 := h 4
  rcases x with ⟨x0, x1, x2, x3, x4⟩
  rcases y with ⟨y0, y1, y2, y3, y4⟩
  simp only [Ws.cs, List.getD_cons_zero, List.getD_cons_succ, T.int.injEq, T.bool.injEq, true_and] at h0 h1 h2 h3 h4
  replace h2 := eI_inj h2
  replace h3 := eI_inj h3
  subst h0; subst h1; subst h2; subst h3; subst h4
  rfl
end Go.Mach.F
namespace Go.Mach.F
open Go Go.Mach Go.Proofs.Try
theorem markL_idem {α : Type} (f : α → Int → α) (c : α → Nat) (hf : ∀ x k, f (f x k) k = f x k) (hc : ∀ x k, c (f x k) = c x) : ∀ (l : List α) (k : Int), markL f c (markL f c l k) k = markL f c l k
  | [], k => rfl
  | x :: l, k => by
    simp only [markL, hf, hc]
    rw [markL_idem f c hf hc l]
theorem cntL_mark {α : Type} (f : α → Int → α) (c : α → Nat) (hc : ∀ x k, c (f x k) = c x) : ∀ (l : List α) (k : Int), cntL c (markL f c l k) = cntL c l
  | [], k => rfl
  | x :: l, k => by
    simp only [markL, cntL, hc]
    rw [cntL_mark f c hc l]
theorem cntL_lin {α : Type} (c d : α → Nat) (A B : Nat) : ∀ l : List α, (∀ x ∈ l, c x ≤ A + B * d x) → cntL c l ≤ A * l.length + B * cntL d l
  | [], _ => by simp [cntL]
  | x :: l, h => by
    have h1 := h x (List.mem_cons_self ..)
    have h2 := cntL_lin c d A B l fun y hy => h y (List.mem_cons_of_mem _ hy)
    simp only [cntL, List.length_cons, Nat.mul_add, Nat.mul_one]
    omega
theorem cb_LI (l : List Int) : cntL c1_LI l ≤ 16 * n_LI l := by
  rw [ct_LI]
  unfold n_LI
  omega
theorem beq_mkLI (l : List Int) (k : Int) : Nat.beq l.length (mk_LI l k).length = true := by rw [len_mkLI]; simp only [beq_self]
theorem mkmk_LI (l : List Int) (k : Int) : mk_LI (mk_LI l k) k = mk_LI l k := markL_idem m1_LI c1_LI (fun _ _ => rfl) (fun _ _ => rfl) l k
theorem ctmk_LI (l : List Int) (k : Int) : cntL c1_LI (mk_LI l k) = cntL c1_LI l := cntL_mark m1_LI c1_LI (fun _ _ => rfl) l k
theorem okqmk_LI {l : List Int} {k : Int} (h : okq_LI l) : okq_LI (mk_LI l k) := by unfold okq_LI; rw [len_mkLI]; exact h
theorem cb_LB (l : List UInt8) : cntL c1_LB l ≤ 16 * n_LB l := by
  rw [ct_LB]
  unfold n_LB
  omega
theorem mkmk_LB (l : List UInt8) (k : Int) : mk_LB (mk_LB l k) k = mk_LB l k := markL_idem m1_LB c1_LB (fun _ _ => rfl) (fun _ _ => rfl) l k
theorem ctmk_LB (l : List UInt8) (k : Int) : cntL c1_LB (mk_LB l k) = cntL c1_LB l := cntL_mark m1_LB c1_LB (fun _ _ => rfl) l k
theorem okqmk_LB {l : List UInt8} {k : Int} (h : okq_LB l) : okq_LB (mk_LB l k) := by unfold okq_LB; rw [len_mkLB]; exact h
theorem cb_HdS (l : List Hd) : cntL c1_HdS l ≤ 16 * n_HdS l := by
  have := cntL_lin c1_HdS (fun _ => 0) 2 0 l fun x _ => by show c1_HdS x ≤ _; unfold c1_HdS; omega
  unfold n_HdS
  omega
theorem mkmk_HdS (l : List Hd) (k : Int) : mk_HdS (mk_HdS l k) k = mk_HdS l k := markL_idem m1_HdS c1_HdS (fun _ _ => rfl) (fun _ _ => rfl) l k
theorem ctmk_HdS (l : List Hd) (k : Int) : cntL c1_HdS (mk_HdS l k) = cntL c1_HdS l := cntL_mark m1_HdS c1_HdS (fun _ _ => rfl) l k
theorem okqmk_HdS {l : List Hd} {k : Int} (h : okq_HdS l) : okq_HdS (mk_HdS l k) := ⟨by rw [len_mkHdS]; exact h.1, fun _ _ => trivial⟩
theorem cb_SfS (l : List Sf) : cntL c1_SfS l ≤ 16 * n_SfS l := by
  have := cntL_lin c1_SfS n1_SfS 0 16 l fun x _ => by have := cb_LB x.b; show c1_SfS x ≤ _; unfold c1_SfS n1_SfS; omega
  unfold n_SfS
  omega
theorem ct1_SfS (x : Sf) (k : Int) : c1_SfS (m1_SfS x k) = c1_SfS x := by simp only [c1_SfS, m1_SfS, mkmk_LB, ctmk_LB]
theorem mm1_SfS (x : Sf) (k : Int) : m1_SfS (m1_SfS x k) k = m1_SfS x k := by simp only [m1_SfS, mkmk_LB, ctmk_LB]
theorem mkmk_SfS (l : List Sf) (k : Int) : mk_SfS (mk_SfS l k) k = mk_SfS l k := markL_idem m1_SfS c1_SfS (fun x k => mm1_SfS x k) (fun x k => ct1_SfS x k) l k
theorem ctmk_SfS (l : List Sf) (k : Int) : cntL c1_SfS (mk_SfS l k) = cntL c1_SfS l := cntL_mark m1_SfS c1_SfS (fun x k => ct1_SfS x k) l k
theorem okqmk_SfS {l : List Sf} {k : Int} (h : okq_SfS l) : okq_SfS (mk_SfS l k) := ⟨by rw [len_mkSfS]; exact h.1, fun x hx => by
    obtain ⟨i, hi, e⟩ := List.getElem_of_mem hx
    have hi' : i < l.length := by rw [len_mkSfS] at hi; exact hi
    have hg := markL_get m1_SfS c1_SfS l k (List.getElem?_eq_getElem hi')
    have he : (mk_SfS l k)[i]? = some x := by rw [List.getElem?_eq_getElem hi, e]
    rw [show (mk_SfS l k)[i]? = (markL m1_SfS c1_SfS l k)[i]? from rfl, hg] at he
    obtain rfl := Option.some.inj he
    have hy : l[i] ∈ l := List.getElem_mem hi'
    exact okqmk_LB ((h.2 _ hy))⟩
end Go.Mach.F
namespace Go.Mach.F
open Go Go.Mach Go.Proofs.Try
--=set_option maxRecDepth 100000
theorem int_eqM (a b : Int) : (a == b) = decide (a = b) := by by_cases h : a = b <;> simp [h]
def m1_RmS (x : Rm) (k : Int) : Rm := ⟨⟨(k), (k + 1)⟩, ⟨(k + 1 + 1), (k + 1 + 1 + 1)⟩, (mk_HdS x.kids (k + 1 + 1 + 1 + 1)), (k + 1 + 1 + 1 + 1 + cntL c1_HdS x.kids), (k + 1 + 1 + 1 + 1 + cntL c1_HdS x.kids + 1), (decide (Int.tmod (k + 1 + 1 + 1 + 1 + cntL c1_HdS x.kids + 1 + 1) 3 = 0)), (k + 1 + 1 + 1 + 1 + cntL c1_HdS x.kids + 1 + 1 + 1), (mk_SfS x.things (k + 1 + 1 + 1 + 1 + cntL c1_HdS x.kids + 1 + 1 + 1 + 1)), (mk_LI x.tags (k + 1 + 1 + 1 + 1 + cntL c1_HdS x.kids + 1 + 1 + 1 + 1 + cntL c1_SfS x.things))⟩
def c1_RmS (x : Rm) : Nat := 1 + 1 + 1 + 1 + cntL c1_HdS x.kids + 1 + 1 + 1 + 1 + cntL c1_SfS x.things + cntL c1_LI x.tags
def okh_RmS (x : List Rm × Int) : Prop := okq_RmS x.1 ∧ 0 ≤ x.2 ∧ x.2 + cntL c1_RmS x.1 ≤ BM
def eah_RmS (x : List Rm × Int) : List Arg := [aT (eL 11 Rm.cs x.1), aI x.2]
def eam_RmS (x : List Rm × Int) : List Arg := [lT (eL 11 Rm.cs x.1), aI x.2]
def mk_RmS (l : List Rm) (k : Int) : List Rm := markL m1_RmS c1_RmS l k
def f_hdRmS (x : List Rm × Int) : Int := if x.1 = mk_RmS x.1 x.2 then x.2 + cntL c1_RmS x.1 else -1
def f_mkRmS (x : List Rm × Int) : List Rm := mk_RmS x.1 x.2
def f_ctRmS (x : List Rm × Int) : Int := x.2 + cntL c1_RmS x.1
noncomputable def e_hdRmS : Ent := ent [] okh_RmS eah_RmS (erI 2) f_hdRmS
noncomputable def e_mkRmS : Ent := ent [1] okh_RmS eam_RmS (fun x => ([oT (.int .i64 (f_ctRmS x))], [oT (eL 11 Rm.cs (f_mkRmS x)), nul])) fun x => x
theorem eah_RmS_inj (x y : List Rm × Int) (h : eah_RmS x = eah_RmS y) : x = y := by
  simp only [eah_RmS, aI, aT, List.cons.injEq, Prod.mk.injEq, true_and, and_true, C.tr.injEq, T.int.injEq] at h
  exact Prod.ext (eL_inj Rm.cs_inj h.1) h.2
theorem eam_RmS_inj (x y : List Rm × Int) (h : eam_RmS x = eam_RmS y) : x = y := by
  simp only [eam_RmS, lT, aI, aT, List.cons.injEq, Prod.mk.injEq, true_and, and_true, C.tr.injEq, T.int.injEq] at h
  exact Prod.ext (eL_inj Rm.cs_inj h.1) h.2
def i_hdRmS : Nat := 113
noncomputable abbrev F_hdRmS : Func := f113
def kp_hdRmS : List (Nat × List Nat) := [(0, [0, 4]), (1, [0, 4, 20]), (2, [0, 4, 20, 36]), (3, [0, 4, 20]), (4, [0, 4, 20, 76]), (5, [16]), (6, [0, 4, 20]), (7, [0, 4, 20, 116]), (8, [16]), (9, [0, 4, 20]), (10, [0, 4, 20, 156]), (11, [16]), (12, [0, 4, 20]), (13, [0, 4, 20, 196]), (14, [16]), (15, [0, 4, 20]), (16, [0, 4, 20]), (17, [0, 4, 20, 240]), (18, [16]), (19, [0, 4, 20, 268]), (20, [16]), (21, [0, 4, 20]), (22, [0, 4, 20, 304]), (23, [16]), (24, [0, 4, 20]), (25, [0, 4, 20, 348]), (26, [16]), (27, [0, 4, 20]), (28, [0, 4, 20, 384]), (29, [16]), (30, [0, 4, 20]), (31, [0, 4, 20]), (32, [0, 4, 20, 428]), (33, [16]), (34, [0, 4, 20]), (35, [0, 4, 20, 464]), (36, [16]), (37, [16])]
def ts_hdRmS : List Nat := [0, 0]
def st_hdRmS_1 (l : List Rm) (k : Int) (x4 : Int) (x20 : Int) : St := [(0, ⟨z0, [(false, [.tr false (eL 11 Rm.cs l)])]⟩), (4, ⟨z0, [(false, [.tr true (T.int IntKind.i64 x4)])]⟩), (20, ⟨z0, [(false, [.tr true (T.int IntKind.i64 x20)])]⟩)]
def ex_hdRmS_1_1 (l : List Rm) (k : Int) (x4 : Int) (x20 : Int) : St := [(16, ⟨z0, [(false, [.tr true (T.int IntKind.i64 (-1))])]⟩)]
def ex_hdRmS_1_2 (l : List Rm) (k : Int) (x4 : Int) (x20 : Int) : St := [(0, ⟨z0, [(false, [.tr false (eL 11 Rm.cs l)])]⟩), (4, ⟨z0, [(false, [.tr true (T.int IntKind.i64 x4)])]⟩), (20, ⟨z0, [(false, [.tr true (T.int IntKind.i64 x20)])]⟩), (36, ⟨z0, []⟩)]
theorem round_hdRmS_1 (l : List Rm) (k : Int) (x4 : Int) (x20 : Int) (n : Nat) (K : Ex → St → Res) : roundAt prog (tabS [(i_hdHdS, e_hdHdS), (i_hdSfS, e_hdSfS), (i_hdLI, e_hdLI)]) kp_hdRmS F_hdRmS [1, 0, 1, 0] n (st_hdRmS_1 l k x4 x20) K = (
 bif decide (x20 < (↑l.length : Int)) then
  gd (decide (0 ≤ x20) && (x20.toNat.blt l.length && true)) <|
  gd (T.isI IntKind.i64 (atL Rm.cs l x20.toNat (0 + 0))) <|
  bif (atL Rm.cs l x20.toNat (0 + 0)).toI != x4 then
   K .ret (ex_hdRmS_1_1 l k x4 x20)
  else
  gd (decide (0 ≤ x20) && (x20.toNat.blt l.length && true)) <|
  gd (T.isI IntKind.i64 (atL Rm.cs l x20.toNat (0 + 1))) <|
  bif (atL Rm.cs l x20.toNat (0 + 1)).toI != IntKind.i64.wrap (x4 + 1) then
   K .ret (ex_hdRmS_1_1 l k x4 x20)
  else
  gd (decide (0 ≤ x20) && (x20.toNat.blt l.length && true)) <|
  gd (T.isI IntKind.i64 (atL Rm.cs l x20.toNat (2 + 0))) <|
  bif (atL Rm.cs l x20.toNat (2 + 0)).toI != IntKind.i64.wrap (IntKind.i64.wrap (x4 + 1) + 1) then
   K .ret (ex_hdRmS_1_1 l k x4 x20)
  else
  gd (decide (0 ≤ x20) && (x20.toNat.blt l.length && true)) <|
  gd (T.isI IntKind.i64 (atL Rm.cs l x20.toNat (2 + 1))) <|
  bif (atL Rm.cs l x20.toNat (2 + 1)).toI != IntKind.i64.wrap (IntKind.i64.wrap (IntKind.i64.wrap (x4 + 1) + 1) + 1) then
   K .ret (ex_hdRmS_1_1 l k x4 x20)
  else
  gd (decide (0 ≤ x20) && (x20.toNat.blt l.length && true)) <|
  gd ((atL Rm.cs l x20.toNat 4).isArr && (atL Rm.cs l x20.toNat 4).wd.beq 2) <|
  entK okh_HdS eah_HdS (f_hdHdS) [(0, false, [C.tr false (T.arr 2 (atL Rm.cs l x20.toNat 4).ln (atL Rm.cs l x20.toNat 4).fn)]),
  (0, false,
    [C.tr false
        (T.int IntKind.i64
          (IntKind.i64.wrap (IntKind.i64.wrap (IntKind.i64.wrap (IntKind.i64.wrap (x4 + 1) + 1) + 1) + 1)))])] fun (r1 : Int) =>
  bif decide (r1 < 0) then
   K .ret (ex_hdRmS_1_1 l k x4 x20)
  else
  gd (decide (0 ≤ x20) && (x20.toNat.blt l.length && true)) <|
  gd (T.isI IntKind.i64 (atL Rm.cs l x20.toNat 5)) <|
  bif (atL Rm.cs l x20.toNat 5).toI != r1 then
   K .ret (ex_hdRmS_1_1 l k x4 x20)
  else
  gd (decide (0 ≤ x20) && (x20.toNat.blt l.length && true)) <|
  gd (T.isI IntKind.i64 (atL Rm.cs l x20.toNat 6)) <|
  bif (atL Rm.cs l x20.toNat 6).toI != IntKind.i64.wrap (r1 + 1) then
   K .ret (ex_hdRmS_1_1 l k x4 x20)
  else
  gd (decide (0 ≤ x20) && (x20.toNat.blt l.length && true)) <|
  gd ((atL Rm.cs l x20.toNat 7).isB) <|
  bif !(atL Rm.cs l x20.toNat 7).toB == ((IntKind.i64.wrap (IntKind.i64.wrap (r1 + 1) + 1)).tmod 3 == 0) then
   K .ret (ex_hdRmS_1_1 l k x4 x20)
  else
  gd (decide (0 ≤ x20) && (x20.toNat.blt l.length && true)) <|
  gd (T.isI IntKind.i64 (atL Rm.cs l x20.toNat 8)) <|
  bif (atL Rm.cs l x20.toNat 8).toI != IntKind.i64.wrap (IntKind.i64.wrap (IntKind.i64.wrap (r1 + 1) + 1) + 1) then
   K .ret (ex_hdRmS_1_1 l k x4 x20)
  else
  gd (decide (0 ≤ x20) && (x20.toNat.blt l.length && true)) <|
  gd ((atL Rm.cs l x20.toNat 9).isArr && (atL Rm.cs l x20.toNat 9).wd.beq 1) <|
  entK okh_SfS eah_SfS (f_hdSfS) [(0, false, [C.tr false (T.arr 1 (atL Rm.cs l x20.toNat 9).ln (atL Rm.cs l x20.toNat 9).fn)]),
  (0, false,
    [C.tr false
        (T.int IntKind.i64
          (IntKind.i64.wrap (IntKind.i64.wrap (IntKind.i64.wrap (IntKind.i64.wrap (r1 + 1) + 1) + 1) + 1)))])] fun (r2 : Int) =>
  bif decide (r2 < 0) then
   K .ret (ex_hdRmS_1_1 l k x4 x20)
  else
  gd (decide (0 ≤ x20) && (x20.toNat.blt l.length && true)) <|
  gd ((atL Rm.cs l x20.toNat 10).isArr && (atL Rm.cs l x20.toNat 10).wd.beq 1) <|
  entK okh_LI eah_LI (f_hdLI) [(0, false, [C.tr false (T.arr 1 (atL Rm.cs l x20.toNat 10).ln (atL Rm.cs l x20.toNat 10).fn)]),
  (0, false, [C.tr false (T.int IntKind.i64 r2)])] fun (r3 : Int) =>
  bif decide (r3 < 0) then
   K .ret (ex_hdRmS_1_1 l k x4 x20)
  else
  K .normal (st_hdRmS_1 l k r3 (IntKind.i64.wrap (x20 + 1)))
 else
 K (.exit 0) (ex_hdRmS_1_2 l k x4 x20)) := by kernel_rfl
theorem post_hdRmS_1_1 (l : List Rm) (k : Int) (x4 : Int) (x20 : Int) (n : Nat) : contAt prog (tabS [(i_hdHdS, e_hdHdS), (i_hdSfS, e_hdSfS), (i_hdLI, e_hdLI)]) kp_hdRmS F_hdRmS ts_hdRmS [1, 0, 1, 0] [] n .ret (ex_hdRmS_1_1 l k x4 x20) = (
 some ([(false, [.tr true (T.int IntKind.i64 (-1))])], [(false, []), (false, [])])) := by kernel_rfl
theorem post_hdRmS_1_2 (l : List Rm) (k : Int) (x4 : Int) (x20 : Int) (n : Nat) : contAt prog (tabS [(i_hdHdS, e_hdHdS), (i_hdSfS, e_hdSfS), (i_hdLI, e_hdLI)]) kp_hdRmS F_hdRmS ts_hdRmS [1, 0, 1, 0] [] n (.exit 0) (ex_hdRmS_1_2 l k x4 x20) = (
 some ([(false, [.tr true (T.int IntKind.i64 x4)])], [(false, []), (false, [])])) := by kernel_rfl
theorem pre_hdRmS (l : List Rm) (k : Int) (n : Nat) : body prog (tabS [(i_hdHdS, e_hdHdS), (i_hdSfS, e_hdSfS), (i_hdLI, e_hdLI)]) kp_hdRmS n F_hdRmS [aT (eL 11 Rm.cs l), aI k] = (
 loopAt prog (tabS [(i_hdHdS, e_hdHdS), (i_hdSfS, e_hdSfS), (i_hdLI, e_hdLI)]) kp_hdRmS F_hdRmS [1, 0, 1, 0] n n (st_hdRmS_1 l k (k) (0)) (contAt prog (tabS [(i_hdHdS, e_hdHdS), (i_hdSfS, e_hdSfS), (i_hdLI, e_hdLI)]) kp_hdRmS F_hdRmS ts_hdRmS [1, 0, 1, 0] [] n)) := by kernel_rfl
theorem body_hdRmS (l : List Rm) (k : Int) (h : okh_RmS (l, k)) : body prog (tabS [(i_hdHdS, e_hdHdS), (i_hdSfS, e_hdSfS), (i_hdLI, e_hdLI)]) kp_hdRmS (l.length + 1) F_hdRmS (eah_RmS (l, k)) = some (erI 2 (f_hdRmS (l, k))) := by
  obtain ⟨hl, hk0, hk1⟩ := h
  have hbm := bm
  dsimp only at hl hk0 hk1
  have hl' : l.length ≤ BM := hl.1
  unfold eah_RmS f_hdRmS
  dsimp only
  rw [pre_hdRmS]
  have hst : st_hdRmS_1 l k k 0 = (fun i : Nat => st_hdRmS_1 l k (k + cntL c1_RmS (l.take i)) (i : Nat)) 0 := by simp [cntL]
  rw [hst, heldS m1_RmS c1_RmS l k (fun i : Nat => st_hdRmS_1 l k (k + cntL c1_RmS (l.take i)) (i : Nat)) (fun i : Nat => ex_hdRmS_1_1 l k (k + cntL c1_RmS (l.take i)) (i : Nat)) (ex_hdRmS_1_2 l k (k + cntL c1_RmS l) l.length) (fun i x K hx => ?_) (fun K => ?_) (fun i => post_hdRmS_1_1 l k _ _ _) (post_hdRmS_1_2 l k _ _ _) _ (Nat.le_refl _)]
  · unfold mk_RmS
    split <;> rfl
  · have hi := (List.getElem?_eq_some_iff.1 hx).1
    have hxm : x ∈ l := List.mem_of_getElem? hx
    have hc := cntL_take c1_RmS l hx
    have hcl := cntL_le c1_RmS l (i + 1)
    have hcx : c1_RmS x = 1 + 1 + 1 + 1 + cntL c1_HdS x.kids + 1 + 1 + 1 + 1 + cntL c1_SfS x.things + cntL c1_LI x.tags := rfl
    have h0 := (hl.2 _ hxm).1
    have h1 := (hl.2 _ hxm).2.1
    have h2 := (hl.2 _ hxm).2.2
    rw [hc, round_hdRmS_1]
    obtain ⟨k0, hk⟩ : ∃ k0, k0 = k + (cntL c1_RmS (l.take i) : Int) := ⟨_, rfl⟩
    have hk2 : k + ((cntL c1_RmS (l.take i) + c1_RmS x : Nat) : Int) = k0 + 1 + 1 + 1 + 1 + cntL c1_HdS x.kids + 1 + 1 + 1 + 1 + cntL c1_SfS x.things + cntL c1_LI x.tags := by omega
    rw [hk2, ← hk]
    have g0 : okh_HdS (x.kids, k0 + 1 + 1 + 1 + 1) := ⟨h0, by dsimp only; omega, by dsimp only; omega⟩
    have g1 : okh_SfS (x.things, k0 + 1 + 1 + 1 + 1 + cntL c1_HdS x.kids + 1 + 1 + 1 + 1) := ⟨h1, by dsimp only; omega, by dsimp only; omega⟩
    have g2 : okh_LI (x.tags, k0 + 1 + 1 + 1 + 1 + cntL c1_HdS x.kids + 1 + 1 + 1 + 1 + cntL c1_SfS x.things) := ⟨h2, by dsimp only; omega, by dsimp only; omega⟩
    simp (disch := omega) only [lt_d, ge0_d, Int.toNat_natCast, blt_d, ble_self, beq_self, decide_true, cond_true, Bool.and_self, Bool.and_true, Bool.true_and, gd_true, Nat.zero_add, List.getD_cons_zero, List.getD_cons_succ, isI_int, toI_int, isB_bool, toB_bool, eL_T, arr_ln, arr_fn, arr_wd, arr_is, arr_get, hi, atL_of hx, Rm.cs, int_ne, bool_ne, int_eqM, bool_eq, wrapI, wrapS]
    by_cases e0 : x.h.slot = k0
    case neg =>
      rw [decide_eq_false e0, decide_eq_false (show ¬ x = m1_RmS x k0 from fun e => e0 (congrArg (fun z : Rm => z.h.slot) e))]
      rfl
    rw [decide_eq_true e0]
    simp (disch := omega) only [Bool.not_true, cond_false, wrapI]
    by_cases e1 : x.h.gen = k0 + 1
    case neg =>
      rw [decide_eq_false e1, decide_eq_false (show ¬ x = m1_RmS x k0 from fun e => e1 (congrArg (fun z : Rm => z.h.gen) e))]
      rfl
    rw [decide_eq_true e1]
    simp (disch := omega) only [Bool.not_true, cond_false, wrapI]
    by_cases e2 : x.up.slot = k0 + 1 + 1
    case neg =>
      rw [decide_eq_false e2, decide_eq_false (show ¬ x = m1_RmS x k0 from fun e => e2 (congrArg (fun z : Rm => z.up.slot) e))]
      rfl
    rw [decide_eq_true e2]
    simp (disch := omega) only [Bool.not_true, cond_false, wrapI]
    by_cases e3 : x.up.gen = k0 + 1 + 1 + 1
    case neg =>
      rw [decide_eq_false e3, decide_eq_false (show ¬ x = m1_RmS x k0 from fun e => e3 (congrArg (fun z : Rm => z.up.gen) e))]
      rfl
    rw [decide_eq_true e3]
    simp (disch := omega) only [Bool.not_true, cond_false, wrapI]
    simp only [entK_of (dm_hdHdS g0) (iv_hdHdS g0), gd_true]
    by_cases e4 : x.kids = mk_HdS x.kids (k0 + 1 + 1 + 1 + 1)
    case neg =>
      simp only [n_hdHdS e4]
      rw [decide_eq_false (show ¬ x = m1_RmS x k0 from fun e => e4 (congrArg (fun z : Rm => z.kids) e))]
      rfl
    simp only [y_hdHdS e4]
    rw [decide_eq_false (show ¬ k0 + 1 + 1 + 1 + 1 + (cntL c1_HdS x.kids : Int) < 0 by omega)]
    simp (disch := omega) only [cond_false, wrapI]
    by_cases e5 : x.ep = k0 + 1 + 1 + 1 + 1 + cntL c1_HdS x.kids
    case neg =>
      rw [decide_eq_false e5, decide_eq_false (show ¬ x = m1_RmS x k0 from fun e => e5 (congrArg (fun z : Rm => z.ep) e))]
      rfl
    rw [decide_eq_true e5]
    simp (disch := omega) only [Bool.not_true, cond_false, wrapI]
    by_cases e6 : x.chunks = k0 + 1 + 1 + 1 + 1 + cntL c1_HdS x.kids + 1
    case neg =>
      rw [decide_eq_false e6, decide_eq_false (show ¬ x = m1_RmS x k0 from fun e => e6 (congrArg (fun z : Rm => z.chunks) e))]
      rfl
    rw [decide_eq_true e6]
    simp (disch := omega) only [Bool.not_true, cond_false, wrapI]
    by_cases e7 : x.cur = decide (Int.tmod (k0 + 1 + 1 + 1 + 1 + cntL c1_HdS x.kids + 1 + 1) 3 = 0)
    case neg =>
      rw [decide_eq_false e7, decide_eq_false (show ¬ x = m1_RmS x k0 from fun e => e7 (congrArg (fun z : Rm => z.cur) e))]
      rfl
    rw [decide_eq_true e7]
    simp (disch := omega) only [Bool.not_true, cond_false, wrapI]
    by_cases e8 : x.bump = k0 + 1 + 1 + 1 + 1 + cntL c1_HdS x.kids + 1 + 1 + 1
    case neg =>
      rw [decide_eq_false e8, decide_eq_false (show ¬ x = m1_RmS x k0 from fun e => e8 (congrArg (fun z : Rm => z.bump) e))]
      rfl
    rw [decide_eq_true e8]
    simp (disch := omega) only [Bool.not_true, cond_false, wrapI]
    simp only [entK_of (dm_hdSfS g1) (iv_hdSfS g1), gd_true]
    by_cases e9 : x.things = mk_SfS x.things (k0 + 1 + 1 + 1 + 1 + cntL c1_HdS x.kids + 1 + 1 + 1 + 1)
    case neg =>
      simp only [n_hdSfS e9]
      rw [decide_eq_false (show ¬ x = m1_RmS x k0 from fun e => e9 (congrArg (fun z : Rm => z.things) e))]
      rfl
    simp only [y_hdSfS e9]
    rw [decide_eq_false (show ¬ k0 + 1 + 1 + 1 + 1 + cntL c1_HdS x.kids + 1 + 1 + 1 + 1 + (cntL c1_SfS x.things : Int) < 0 by omega)]
    simp (disch := omega) only [cond_false, wrapI]
    simp only [entK_of (dm_hdLI g2) (iv_hdLI g2), gd_true]
    by_cases e10 : x.tags = mk_LI x.tags (k0 + 1 + 1 + 1 + 1 + cntL c1_HdS x.kids + 1 + 1 + 1 + 1 + cntL c1_SfS x.things)
    case neg =>
      simp only [n_hdLI e10]
      rw [decide_eq_false (show ¬ x = m1_RmS x k0 from fun e => e10 (congrArg (fun z : Rm => z.tags) e))]
      rfl
    simp only [y_hdLI e10]
    rw [decide_eq_false (show ¬ k0 + 1 + 1 + 1 + 1 + cntL c1_HdS x.kids + 1 + 1 + 1 + 1 + cntL c1_SfS x.things + (cntL c1_LI x.tags : Int) < 0 by omega)]
    simp (disch := omega) only [cond_false, wrapI]
    have hm : x = m1_RmS x k0 := by
      rcases x with ⟨⟨x0, x1⟩, ⟨x2, x3⟩, x4, x5, x6, x7, x8, x9, x10⟩
      simp only [m1_RmS, Rm.mk.injEq, Hd.mk.injEq]
      exact ⟨⟨e0, e1⟩, ⟨e2, e3⟩, e4, e5, e6, e7, e8, e9, e10⟩
    rw [decide_eq_true hm]
    simp only [Bool.not_true, cond_false]
    congr 2
  · rw [round_hdRmS_1]
    simp only [lt_d, Nat.lt_irrefl, decide_false, cond_false, List.take_length]
theorem s_hdRmS : EntOk prog i_hdRmS e_hdRmS := ent_ok eah_RmS_inj fun x hx =>
  body_sound (φ := (tabS [(i_hdHdS, e_hdHdS), (i_hdSfS, e_hdSfS), (i_hdLI, e_hdLI)])) (tabS_cons s_hdHdS (tabS_cons s_hdSfS (tabS_cons s_hdLI tabS_nil))) mixed (kp := kp_hdRmS) (n := x.1.length + 1) func113 (c := bodyOf F_hdRmS) (by kernel_rfl) (body_hdRmS x.1 x.2 hx) (name_ok (by kernel_rfl))
def i_mkRmS : Nat := 80
noncomputable abbrev F_mkRmS : Func := f80
def kp_mkRmS : List (Nat × List Nat) := [(0, [0, 4, 2]), (1, [0, 4, 20, 2]), (2, [0, 4, 20, 36, 2]), (3, [0, 4, 20, 2]), (4, [0, 4, 20, 2]), (5, [0, 4, 20, 2]), (6, [0, 4, 20, 2]), (7, [0, 4, 20, 2]), (8, [0, 4, 20, 2]), (9, [0, 4, 20, 2]), (10, [0, 4, 20, 2]), (11, [0, 4, 20, 2]), (12, [0, 4, 20, 2]), (13, [0, 4, 20, 2]), (14, [0, 4, 20, 2]), (15, [0, 4, 20, 2]), (16, [0, 4, 20, 2]), (17, [0, 4, 20, 2]), (18, [0, 4, 20, 2]), (19, [0, 4, 20, 2]), (20, [0, 4, 20, 2]), (21, [0, 4, 20, 2]), (22, [0, 4, 20, 2]), (23, [16, 2])]
def ts_mkRmS : List Nat := [1, 0]
def st_mkRmS_1 (l : List Rm) (k : Int) (x4 : Int) (x20 : Int) (nx2 : Nat) (fx2 : Nat → Nat → T) : St := [(0, ⟨z0, [(false, [(C.ref 2 0 [0, 0] 11 0 l.length)])]⟩), (4, ⟨z0, [(false, [.tr true (T.int IntKind.i64 x4)])]⟩), (20, ⟨z0, [(false, [.tr true (T.int IntKind.i64 x20)])]⟩), (2, ⟨z0, [(false, [.tr true (.arr (11) (nx2) (fx2))])]⟩)]
def ex_mkRmS_1_1 (l : List Rm) (k : Int) (x4 : Int) (x20 : Int) (nx2 : Nat) (fx2 : Nat → Nat → T) : St := [(0, ⟨z0, [(false, [(C.ref 2 0 [0, 0] 11 0 l.length)])]⟩), (4, ⟨z0, [(false, [.tr true (T.int IntKind.i64 x4)])]⟩), (20, ⟨z0, [(false, [.tr true (T.int IntKind.i64 x20)])]⟩), (36, ⟨z0, []⟩), (2, ⟨z0, [(false, [.tr true (.arr (11) (nx2) (fx2))])]⟩)]
theorem round_mkRmS_1 (l : List Rm) (k : Int) (x4 : Int) (x20 : Int) (nx2 : Nat) (fx2 : Nat → Nat → T) (n : Nat) (K : Ex → St → Res) : roundAt prog (tabS [(i_mkHdS, e_mkHdS), (i_mkSfS, e_mkSfS), (i_mkLI, e_mkLI)]) kp_mkRmS F_mkRmS [1, 0, 1, 0] n (st_mkRmS_1 l k x4 x20 nx2 fx2) K = (
 bif decide (x20 < (↑l.length : Int)) then
  gd (decide (0 ≤ x20) && (x20.toNat.blt l.length && true)) <|
  gd ((0 + x20.toNat).blt nx2 && true && true) <|
  gd (decide (0 ≤ x20) && (x20.toNat.blt l.length && true)) <|
  gd ((0 + x20.toNat).blt nx2 && true && true) <|
  gd (decide (0 ≤ x20) && (x20.toNat.blt l.length && true)) <|
  gd ((0 + x20.toNat).blt nx2 && true && true) <|
  gd (decide (0 ≤ x20) && (x20.toNat.blt l.length && true)) <|
  gd ((0 + x20.toNat).blt nx2 && true && true) <|
  gd (decide (0 ≤ x20) && (x20.toNat.blt l.length && true)) <|
  gd ((0 + x20.toNat).blt nx2 && true &&
  ((setF (0 + x20.toNat) (2 + 1)
        (T.int IntKind.i64 (IntKind.i64.wrap (IntKind.i64.wrap (IntKind.i64.wrap (x4 + 1) + 1) + 1)))
        (setF (0 + x20.toNat) (2 + 0) (T.int IntKind.i64 (IntKind.i64.wrap (IntKind.i64.wrap (x4 + 1) + 1)))
          (setF (0 + x20.toNat) (0 + 1) (T.int IntKind.i64 (IntKind.i64.wrap (x4 + 1)))
            (setF (0 + x20.toNat) (0 + 0) (T.int IntKind.i64 x4) fx2)))
        (0 + x20.toNat) (4 + 0)).isArr &&
    (setF (0 + x20.toNat) (2 + 1)
            (T.int IntKind.i64 (IntKind.i64.wrap (IntKind.i64.wrap (IntKind.i64.wrap (x4 + 1) + 1) + 1)))
            (setF (0 + x20.toNat) (2 + 0) (T.int IntKind.i64 (IntKind.i64.wrap (IntKind.i64.wrap (x4 + 1) + 1)))
              (setF (0 + x20.toNat) (0 + 1) (T.int IntKind.i64 (IntKind.i64.wrap (x4 + 1)))
                (setF (0 + x20.toNat) (0 + 0) (T.int IntKind.i64 x4) fx2)))
            (0 + x20.toNat) (4 + 0)).wd.beq
      2)) <|
  gd ((0 + x20.toNat).blt nx2 && true && true &&
  ((T.arr 11 nx2
          (setF (0 + x20.toNat) (2 + 1)
            (T.int IntKind.i64 (IntKind.i64.wrap (IntKind.i64.wrap (IntKind.i64.wrap (x4 + 1) + 1) + 1)))
            (setF (0 + x20.toNat) (2 + 0) (T.int IntKind.i64 (IntKind.i64.wrap (IntKind.i64.wrap (x4 + 1) + 1)))
              (setF (0 + x20.toNat) (0 + 1) (T.int IntKind.i64 (IntKind.i64.wrap (x4 + 1)))
                (setF (0 + x20.toNat) (0 + 0) (T.int IntKind.i64 x4) fx2))))).get
      [0 + x20.toNat, 4 + 0]).isArr) <|
  gd ((setF (0 + x20.toNat) (2 + 1)
          (T.int IntKind.i64 (IntKind.i64.wrap (IntKind.i64.wrap (IntKind.i64.wrap (x4 + 1) + 1) + 1)))
          (setF (0 + x20.toNat) (2 + 0) (T.int IntKind.i64 (IntKind.i64.wrap (IntKind.i64.wrap (x4 + 1) + 1)))
            (setF (0 + x20.toNat) (0 + 1) (T.int IntKind.i64 (IntKind.i64.wrap (x4 + 1)))
              (setF (0 + x20.toNat) (0 + 0) (T.int IntKind.i64 x4) fx2)))
          (0 + x20.toNat) (4 + 0)).ln.beq
    ((T.arr 11 nx2
            (setF (0 + x20.toNat) (2 + 1)
              (T.int IntKind.i64 (IntKind.i64.wrap (IntKind.i64.wrap (IntKind.i64.wrap (x4 + 1) + 1) + 1)))
              (setF (0 + x20.toNat) (2 + 0) (T.int IntKind.i64 (IntKind.i64.wrap (IntKind.i64.wrap (x4 + 1) + 1)))
                (setF (0 + x20.toNat) (0 + 1) (T.int IntKind.i64 (IntKind.i64.wrap (x4 + 1)))
                  (setF (0 + x20.toNat) (0 + 0) (T.int IntKind.i64 x4) fx2))))).get
        [0 + x20.toNat, 4 + 0]).ln &&
  Nat.beq 2
    ((T.arr 11 nx2
            (setF (0 + x20.toNat) (2 + 1)
              (T.int IntKind.i64 (IntKind.i64.wrap (IntKind.i64.wrap (IntKind.i64.wrap (x4 + 1) + 1) + 1)))
              (setF (0 + x20.toNat) (2 + 0) (T.int IntKind.i64 (IntKind.i64.wrap (IntKind.i64.wrap (x4 + 1) + 1)))
                (setF (0 + x20.toNat) (0 + 1) (T.int IntKind.i64 (IntKind.i64.wrap (x4 + 1)))
                  (setF (0 + x20.toNat) (0 + 0) (T.int IntKind.i64 x4) fx2))))).get
        [0 + x20.toNat, 4 + 0]).wd) <|
  entK okh_HdS eam_HdS (fun x => x) [(1, false,
    [C.tr true
        (T.arr 2
          (setF (0 + x20.toNat) (2 + 1)
              (T.int IntKind.i64 (IntKind.i64.wrap (IntKind.i64.wrap (IntKind.i64.wrap (x4 + 1) + 1) + 1)))
              (setF (0 + x20.toNat) (2 + 0) (T.int IntKind.i64 (IntKind.i64.wrap (IntKind.i64.wrap (x4 + 1) + 1)))
                (setF (0 + x20.toNat) (0 + 1) (T.int IntKind.i64 (IntKind.i64.wrap (x4 + 1)))
                  (setF (0 + x20.toNat) (0 + 0) (T.int IntKind.i64 x4) fx2)))
              (0 + x20.toNat) (4 + 0)).ln
          ((T.arr 11 nx2
                  (setF (0 + x20.toNat) (2 + 1)
                    (T.int IntKind.i64 (IntKind.i64.wrap (IntKind.i64.wrap (IntKind.i64.wrap (x4 + 1) + 1) + 1)))
                    (setF (0 + x20.toNat) (2 + 0) (T.int IntKind.i64 (IntKind.i64.wrap (IntKind.i64.wrap (x4 + 1) + 1)))
                      (setF (0 + x20.toNat) (0 + 1) (T.int IntKind.i64 (IntKind.i64.wrap (x4 + 1)))
                        (setF (0 + x20.toNat) (0 + 0) (T.int IntKind.i64 x4) fx2))))).get
              [0 + x20.toNat, 4 + 0]).fn)]),
  (0, false,
    [C.tr false
        (T.int IntKind.i64
          (IntKind.i64.wrap (IntKind.i64.wrap (IntKind.i64.wrap (IntKind.i64.wrap (x4 + 1) + 1) + 1) + 1)))])] fun (r1 : List Hd × Int) =>
  gd ((setF (0 + x20.toNat) (2 + 1)
          (T.int IntKind.i64 (IntKind.i64.wrap (IntKind.i64.wrap (IntKind.i64.wrap (x4 + 1) + 1) + 1)))
          (setF (0 + x20.toNat) (2 + 0) (T.int IntKind.i64 (IntKind.i64.wrap (IntKind.i64.wrap (x4 + 1) + 1)))
            (setF (0 + x20.toNat) (0 + 1) (T.int IntKind.i64 (IntKind.i64.wrap (x4 + 1)))
              (setF (0 + x20.toNat) (0 + 0) (T.int IntKind.i64 x4) fx2)))
          (0 + x20.toNat) (4 + 0)).ln.beq
    (f_mkHdS r1).length &&
  ((0 + x20.toNat).blt nx2 && true && true)) <|
  gd (decide (0 ≤ x20) && (x20.toNat.blt l.length && true)) <|
  gd ((0 + x20.toNat).blt nx2 && true && true) <|
  gd (decide (0 ≤ x20) && (x20.toNat.blt l.length && true)) <|
  gd ((0 + x20.toNat).blt nx2 && true && true) <|
  gd (decide (0 ≤ x20) && (x20.toNat.blt l.length && true)) <|
  gd ((0 + x20.toNat).blt nx2 && true && true) <|
  gd (decide (0 ≤ x20) && (x20.toNat.blt l.length && true)) <|
  gd ((0 + x20.toNat).blt nx2 && true && true) <|
  gd (decide (0 ≤ x20) && (x20.toNat.blt l.length && true)) <|
  gd ((0 + x20.toNat).blt nx2 && true &&
  ((setF (0 + x20.toNat) 8
        (T.int IntKind.i64 (IntKind.i64.wrap (IntKind.i64.wrap (IntKind.i64.wrap (f_ctHdS r1 + 1) + 1) + 1)))
        (setF (0 + x20.toNat) 7 (T.bool ((IntKind.i64.wrap (IntKind.i64.wrap (f_ctHdS r1 + 1) + 1)).tmod 3 == 0))
          (setF (0 + x20.toNat) 6 (T.int IntKind.i64 (IntKind.i64.wrap (f_ctHdS r1 + 1)))
            (setF (0 + x20.toNat) 5 (T.int IntKind.i64 (f_ctHdS r1))
              (setF (0 + x20.toNat) (4 + 0) (T.arr 2 (f_mkHdS r1).length (atL Hd.cs (f_mkHdS r1)))
                (setF (0 + x20.toNat) (4 + 0)
                  (T.lent 2
                    (setF (0 + x20.toNat) (2 + 1)
                        (T.int IntKind.i64 (IntKind.i64.wrap (IntKind.i64.wrap (IntKind.i64.wrap (x4 + 1) + 1) + 1)))
                        (setF (0 + x20.toNat) (2 + 0)
                          (T.int IntKind.i64 (IntKind.i64.wrap (IntKind.i64.wrap (x4 + 1) + 1)))
                          (setF (0 + x20.toNat) (0 + 1) (T.int IntKind.i64 (IntKind.i64.wrap (x4 + 1)))
                            (setF (0 + x20.toNat) (0 + 0) (T.int IntKind.i64 x4) fx2)))
                        (0 + x20.toNat) (4 + 0)).ln)
                  (setF (0 + x20.toNat) (2 + 1)
                    (T.int IntKind.i64 (IntKind.i64.wrap (IntKind.i64.wrap (IntKind.i64.wrap (x4 + 1) + 1) + 1)))
                    (setF (0 + x20.toNat) (2 + 0) (T.int IntKind.i64 (IntKind.i64.wrap (IntKind.i64.wrap (x4 + 1) + 1)))
                      (setF (0 + x20.toNat) (0 + 1) (T.int IntKind.i64 (IntKind.i64.wrap (x4 + 1)))
                        (setF (0 + x20.toNat) (0 + 0) (T.int IntKind.i64 x4) fx2)))))))))
        (0 + x20.toNat) (9 + 0)).isArr &&
    (setF (0 + x20.toNat) 8
            (T.int IntKind.i64 (IntKind.i64.wrap (IntKind.i64.wrap (IntKind.i64.wrap (f_ctHdS r1 + 1) + 1) + 1)))
            (setF (0 + x20.toNat) 7
              (T.bool ((IntKind.i64.wrap (IntKind.i64.wrap (f_ctHdS r1 + 1) + 1)).tmod 3 == 0))
              (setF (0 + x20.toNat) 6 (T.int IntKind.i64 (IntKind.i64.wrap (f_ctHdS r1 + 1)))
                (setF (0 + x20.toNat) 5 (T.int IntKind.i64 (f_ctHdS r1))
                  (setF (0 + x20.toNat) (4 + 0) (T.arr 2 (f_mkHdS r1).length (atL Hd.cs (f_mkHdS r1)))
                    (setF (0 + x20.toNat) (4 + 0)
                      (T.lent 2
                        (setF (0 + x20.toNat) (2 + 1)
                            (T.int IntKind.i64
                              (IntKind.i64.wrap (IntKind.i64.wrap (IntKind.i64.wrap (x4 + 1) + 1) + 1)))
                            (setF (0 + x20.toNat) (2 + 0)
                              (T.int IntKind.i64 (IntKind.i64.wrap (IntKind.i64.wrap (x4 + 1) + 1)))
                              (setF (0 + x20.toNat) (0 + 1) (T.int IntKind.i64 (IntKind.i64.wrap (x4 + 1)))
                                (setF (0 + x20.toNat) (0 + 0) (T.int IntKind.i64 x4) fx2)))
                            (0 + x20.toNat) (4 + 0)).ln)
                      (setF (0 + x20.toNat) (2 + 1)
                        (T.int IntKind.i64 (IntKind.i64.wrap (IntKind.i64.wrap (IntKind.i64.wrap (x4 + 1) + 1) + 1)))
                        (setF (0 + x20.toNat) (2 + 0)
                          (T.int IntKind.i64 (IntKind.i64.wrap (IntKind.i64.wrap (x4 + 1) + 1)))
                          (setF (0 + x20.toNat) (0 + 1) (T.int IntKind.i64 (IntKind.i64.wrap (x4 + 1)))
                            (setF (0 + x20.toNat) (0 + 0) (T.int IntKind.i64 x4) fx2)))))))))
            (0 + x20.toNat) (9 + 0)).wd.beq
      1)) <|
  gd ((0 + x20.toNat).blt nx2 && true && true &&
  ((T.arr 11 nx2
          (setF (0 + x20.toNat) 8
            (T.int IntKind.i64 (IntKind.i64.wrap (IntKind.i64.wrap (IntKind.i64.wrap (f_ctHdS r1 + 1) + 1) + 1)))
            (setF (0 + x20.toNat) 7
              (T.bool ((IntKind.i64.wrap (IntKind.i64.wrap (f_ctHdS r1 + 1) + 1)).tmod 3 == 0))
              (setF (0 + x20.toNat) 6 (T.int IntKind.i64 (IntKind.i64.wrap (f_ctHdS r1 + 1)))
                (setF (0 + x20.toNat) 5 (T.int IntKind.i64 (f_ctHdS r1))
                  (setF (0 + x20.toNat) (4 + 0) (T.arr 2 (f_mkHdS r1).length (atL Hd.cs (f_mkHdS r1)))
                    (setF (0 + x20.toNat) (4 + 0)
                      (T.lent 2
                        (setF (0 + x20.toNat) (2 + 1)
                            (T.int IntKind.i64
                              (IntKind.i64.wrap (IntKind.i64.wrap (IntKind.i64.wrap (x4 + 1) + 1) + 1)))
                            (setF (0 + x20.toNat) (2 + 0)
                              (T.int IntKind.i64 (IntKind.i64.wrap (IntKind.i64.wrap (x4 + 1) + 1)))
                              (setF (0 + x20.toNat) (0 + 1) (T.int IntKind.i64 (IntKind.i64.wrap (x4 + 1)))
                                (setF (0 + x20.toNat) (0 + 0) (T.int IntKind.i64 x4) fx2)))
                            (0 + x20.toNat) (4 + 0)).ln)
                      (setF (0 + x20.toNat) (2 + 1)
                        (T.int IntKind.i64 (IntKind.i64.wrap (IntKind.i64.wrap (IntKind.i64.wrap (x4 + 1) + 1) + 1)))
                        (setF (0 + x20.toNat) (2 + 0)
                          (T.int IntKind.i64 (IntKind.i64.wrap (IntKind.i64.wrap (x4 + 1) + 1)))
                          (setF (0 + x20.toNat) (0 + 1) (T.int IntKind.i64 (IntKind.i64.wrap (x4 + 1)))
                            (setF (0 + x20.toNat) (0 + 0) (T.int IntKind.i64 x4) fx2))))))))))).get
      [0 + x20.toNat, 9 + 0]).isArr) <|
  gd ((setF (0 + x20.toNat) 8
          (T.int IntKind.i64 (IntKind.i64.wrap (IntKind.i64.wrap (IntKind.i64.wrap (f_ctHdS r1 + 1) + 1) + 1)))
          (setF (0 + x20.toNat) 7
            (T.bool ((IntKind.i64.wrap (IntKind.i64.wrap (f_ctHdS r1 + 1) + 1)).tmod 3 == 0))
            (setF (0 + x20.toNat) 6 (T.int IntKind.i64 (IntKind.i64.wrap (f_ctHdS r1 + 1)))
              (setF (0 + x20.toNat) 5 (T.int IntKind.i64 (f_ctHdS r1))
                (setF (0 + x20.toNat) (4 + 0) (T.arr 2 (f_mkHdS r1).length (atL Hd.cs (f_mkHdS r1)))
                  (setF (0 + x20.toNat) (4 + 0)
                    (T.lent 2
                      (setF (0 + x20.toNat) (2 + 1)
                          (T.int IntKind.i64 (IntKind.i64.wrap (IntKind.i64.wrap (IntKind.i64.wrap (x4 + 1) + 1) + 1)))
                          (setF (0 + x20.toNat) (2 + 0)
                            (T.int IntKind.i64 (IntKind.i64.wrap (IntKind.i64.wrap (x4 + 1) + 1)))
                            (setF (0 + x20.toNat) (0 + 1) (T.int IntKind.i64 (IntKind.i64.wrap (x4 + 1)))
                              (setF (0 + x20.toNat) (0 + 0) (T.int IntKind.i64 x4) fx2)))
                          (0 + x20.toNat) (4 + 0)).ln)
                    (setF (0 + x20.toNat) (2 + 1)
                      (T.int IntKind.i64 (IntKind.i64.wrap (IntKind.i64.wrap (IntKind.i64.wrap (x4 + 1) + 1) + 1)))
                      (setF (0 + x20.toNat) (2 + 0)
                        (T.int IntKind.i64 (IntKind.i64.wrap (IntKind.i64.wrap (x4 + 1) + 1)))
                        (setF (0 + x20.toNat) (0 + 1) (T.int IntKind.i64 (IntKind.i64.wrap (x4 + 1)))
                          (setF (0 + x20.toNat) (0 + 0) (T.int IntKind.i64 x4) fx2)))))))))
          (0 + x20.toNat) (9 + 0)).ln.beq
    ((T.arr 11 nx2
            (setF (0 + x20.toNat) 8
              (T.int IntKind.i64
                (IntKind.i64.wrap (IntKind.i64.wrap (IntKind.i64.wrap (f_ctHdS r1 + 1) + 1) + 1)))
              (setF (0 + x20.toNat) 7
                (T.bool ((IntKind.i64.wrap (IntKind.i64.wrap (f_ctHdS r1 + 1) + 1)).tmod 3 == 0))
                (setF (0 + x20.toNat) 6 (T.int IntKind.i64 (IntKind.i64.wrap (f_ctHdS r1 + 1)))
                  (setF (0 + x20.toNat) 5 (T.int IntKind.i64 (f_ctHdS r1))
                    (setF (0 + x20.toNat) (4 + 0) (T.arr 2 (f_mkHdS r1).length (atL Hd.cs (f_mkHdS r1)))
                      (setF (0 + x20.toNat) (4 + 0)
                        (T.lent 2
                          (setF (0 + x20.toNat) (2 + 1)
                              (T.int IntKind.i64
                                (IntKind.i64.wrap (IntKind.i64.wrap (IntKind.i64.wrap (x4 + 1) + 1) + 1)))
                              (setF (0 + x20.toNat) (2 + 0)
                                (T.int IntKind.i64 (IntKind.i64.wrap (IntKind.i64.wrap (x4 + 1) + 1)))
                                (setF (0 + x20.toNat) (0 + 1) (T.int IntKind.i64 (IntKind.i64.wrap (x4 + 1)))
                                  (setF (0 + x20.toNat) (0 + 0) (T.int IntKind.i64 x4) fx2)))
                              (0 + x20.toNat) (4 + 0)).ln)
                        (setF (0 + x20.toNat) (2 + 1)
                          (T.int IntKind.i64 (IntKind.i64.wrap (IntKind.i64.wrap (IntKind.i64.wrap (x4 + 1) + 1) + 1)))
                          (setF (0 + x20.toNat) (2 + 0)
                            (T.int IntKind.i64 (IntKind.i64.wrap (IntKind.i64.wrap (x4 + 1) + 1)))
                            (setF (0 + x20.toNat) (0 + 1) (T.int IntKind.i64 (IntKind.i64.wrap (x4 + 1)))
                              (setF (0 + x20.toNat) (0 + 0) (T.int IntKind.i64 x4) fx2))))))))))).get
        [0 + x20.toNat, 9 + 0]).ln &&
  Nat.beq 1
    ((T.arr 11 nx2
            (setF (0 + x20.toNat) 8
              (T.int IntKind.i64
                (IntKind.i64.wrap (IntKind.i64.wrap (IntKind.i64.wrap (f_ctHdS r1 + 1) + 1) + 1)))
              (setF (0 + x20.toNat) 7
                (T.bool ((IntKind.i64.wrap (IntKind.i64.wrap (f_ctHdS r1 + 1) + 1)).tmod 3 == 0))
                (setF (0 + x20.toNat) 6 (T.int IntKind.i64 (IntKind.i64.wrap (f_ctHdS r1 + 1)))
                  (setF (0 + x20.toNat) 5 (T.int IntKind.i64 (f_ctHdS r1))
                    (setF (0 + x20.toNat) (4 + 0) (T.arr 2 (f_mkHdS r1).length (atL Hd.cs (f_mkHdS r1)))
                      (setF (0 + x20.toNat) (4 + 0)
                        (T.lent 2
                          (setF (0 + x20.toNat) (2 + 1)
                              (T.int IntKind.i64
                                (IntKind.i64.wrap (IntKind.i64.wrap (IntKind.i64.wrap (x4 + 1) + 1) + 1)))
                              (setF (0 + x20.toNat) (2 + 0)
                                (T.int IntKind.i64 (IntKind.i64.wrap (IntKind.i64.wrap (x4 + 1) + 1)))
                                (setF (0 + x20.toNat) (0 + 1) (T.int IntKind.i64 (IntKind.i64.wrap (x4 + 1)))
                                  (setF (0 + x20.toNat) (0 + 0) (T.int IntKind.i64 x4) fx2)))
                              (0 + x20.toNat) (4 + 0)).ln)
                        (setF (0 + x20.toNat) (2 + 1)
                          (T.int IntKind.i64 (IntKind.i64.wrap (IntKind.i64.wrap (IntKind.i64.wrap (x4 + 1) + 1) + 1)))
                          (setF (0 + x20.toNat) (2 + 0)
                            (T.int IntKind.i64 (IntKind.i64.wrap (IntKind.i64.wrap (x4 + 1) + 1)))
                            (setF (0 + x20.toNat) (0 + 1) (T.int IntKind.i64 (IntKind.i64.wrap (x4 + 1)))
                              (setF (0 + x20.toNat) (0 + 0) (T.int IntKind.i64 x4) fx2))))))))))).get
        [0 + x20.toNat, 9 + 0]).wd) <|
  entK okh_SfS eam_SfS (fun x => x) [(1, false,
    [C.tr true
        (T.arr 1
          (setF (0 + x20.toNat) 8
              (T.int IntKind.i64
                (IntKind.i64.wrap (IntKind.i64.wrap (IntKind.i64.wrap (f_ctHdS r1 + 1) + 1) + 1)))
              (setF (0 + x20.toNat) 7
                (T.bool ((IntKind.i64.wrap (IntKind.i64.wrap (f_ctHdS r1 + 1) + 1)).tmod 3 == 0))
                (setF (0 + x20.toNat) 6 (T.int IntKind.i64 (IntKind.i64.wrap (f_ctHdS r1 + 1)))
                  (setF (0 + x20.toNat) 5 (T.int IntKind.i64 (f_ctHdS r1))
                    (setF (0 + x20.toNat) (4 + 0) (T.arr 2 (f_mkHdS r1).length (atL Hd.cs (f_mkHdS r1)))
                      (setF (0 + x20.toNat) (4 + 0)
                        (T.lent 2
                          (setF (0 + x20.toNat) (2 + 1)
                              (T.int IntKind.i64
                                (IntKind.i64.wrap (IntKind.i64.wrap (IntKind.i64.wrap (x4 + 1) + 1) + 1)))
                              (setF (0 + x20.toNat) (2 + 0)
                                (T.int IntKind.i64 (IntKind.i64.wrap (IntKind.i64.wrap (x4 + 1) + 1)))
                                (setF (0 + x20.toNat) (0 + 1) (T.int IntKind.i64 (IntKind.i64.wrap (x4 + 1)))
                                  (setF (0 + x20.toNat) (0 + 0) (T.int IntKind.i64 x4) fx2)))
                              (0 + x20.toNat) (4 + 0)).ln)
                        (setF (0 + x20.toNat) (2 + 1)
                          (T.int IntKind.i64 (IntKind.i64.wrap (IntKind.i64.wrap (IntKind.i64.wrap (x4 + 1) + 1) + 1)))
                          (setF (0 + x20.toNat) (2 + 0)
                            (T.int IntKind.i64 (IntKind.i64.wrap (IntKind.i64.wrap (x4 + 1) + 1)))
                            (setF (0 + x20.toNat) (0 + 1) (T.int IntKind.i64 (IntKind.i64.wrap (x4 + 1)))
                              (setF (0 + x20.toNat) (0 + 0) (T.int IntKind.i64 x4) fx2)))))))))
              (0 + x20.toNat) (9 + 0)).ln
          ((T.arr 11 nx2
                  (setF (0 + x20.toNat) 8
                    (T.int IntKind.i64
                      (IntKind.i64.wrap (IntKind.i64.wrap (IntKind.i64.wrap (f_ctHdS r1 + 1) + 1) + 1)))
                    (setF (0 + x20.toNat) 7
                      (T.bool ((IntKind.i64.wrap (IntKind.i64.wrap (f_ctHdS r1 + 1) + 1)).tmod 3 == 0))
                      (setF (0 + x20.toNat) 6 (T.int IntKind.i64 (IntKind.i64.wrap (f_ctHdS r1 + 1)))
                        (setF (0 + x20.toNat) 5 (T.int IntKind.i64 (f_ctHdS r1))
                          (setF (0 + x20.toNat) (4 + 0)
                            (T.arr 2 (f_mkHdS r1).length (atL Hd.cs (f_mkHdS r1)))
                            (setF (0 + x20.toNat) (4 + 0)
                              (T.lent 2
                                (setF (0 + x20.toNat) (2 + 1)
                                    (T.int IntKind.i64
                                      (IntKind.i64.wrap (IntKind.i64.wrap (IntKind.i64.wrap (x4 + 1) + 1) + 1)))
                                    (setF (0 + x20.toNat) (2 + 0)
                                      (T.int IntKind.i64 (IntKind.i64.wrap (IntKind.i64.wrap (x4 + 1) + 1)))
                                      (setF (0 + x20.toNat) (0 + 1) (T.int IntKind.i64 (IntKind.i64.wrap (x4 + 1)))
                                        (setF (0 + x20.toNat) (0 + 0) (T.int IntKind.i64 x4) fx2)))
                                    (0 + x20.toNat) (4 + 0)).ln)
                              (setF (0 + x20.toNat) (2 + 1)
                                (T.int IntKind.i64
                                  (IntKind.i64.wrap (IntKind.i64.wrap (IntKind.i64.wrap (x4 + 1) + 1) + 1)))
                                (setF (0 + x20.toNat) (2 + 0)
                                  (T.int IntKind.i64 (IntKind.i64.wrap (IntKind.i64.wrap (x4 + 1) + 1)))
                                  (setF (0 + x20.toNat) (0 + 1) (T.int IntKind.i64 (IntKind.i64.wrap (x4 + 1)))
                                    (setF (0 + x20.toNat) (0 + 0) (T.int IntKind.i64 x4) fx2))))))))))).get
              [0 + x20.toNat, 9 + 0]).fn)]),
  (0, false,
    [C.tr false
        (T.int IntKind.i64
          (IntKind.i64.wrap
            (IntKind.i64.wrap (IntKind.i64.wrap (IntKind.i64.wrap (f_ctHdS r1 + 1) + 1) + 1) + 1)))])] fun (r2 : List Sf × Int) =>
  gd ((setF (0 + x20.toNat) 8
          (T.int IntKind.i64 (IntKind.i64.wrap (IntKind.i64.wrap (IntKind.i64.wrap (f_ctHdS r1 + 1) + 1) + 1)))
          (setF (0 + x20.toNat) 7
            (T.bool ((IntKind.i64.wrap (IntKind.i64.wrap (f_ctHdS r1 + 1) + 1)).tmod 3 == 0))
            (setF (0 + x20.toNat) 6 (T.int IntKind.i64 (IntKind.i64.wrap (f_ctHdS r1 + 1)))
              (setF (0 + x20.toNat) 5 (T.int IntKind.i64 (f_ctHdS r1))
                (setF (0 + x20.toNat) (4 + 0) (T.arr 2 (f_mkHdS r1).length (atL Hd.cs (f_mkHdS r1)))
                  (setF (0 + x20.toNat) (4 + 0)
                    (T.lent 2
                      (setF (0 + x20.toNat) (2 + 1)
                          (T.int IntKind.i64 (IntKind.i64.wrap (IntKind.i64.wrap (IntKind.i64.wrap (x4 + 1) + 1) + 1)))
                          (setF (0 + x20.toNat) (2 + 0)
                            (T.int IntKind.i64 (IntKind.i64.wrap (IntKind.i64.wrap (x4 + 1) + 1)))
                            (setF (0 + x20.toNat) (0 + 1) (T.int IntKind.i64 (IntKind.i64.wrap (x4 + 1)))
                              (setF (0 + x20.toNat) (0 + 0) (T.int IntKind.i64 x4) fx2)))
                          (0 + x20.toNat) (4 + 0)).ln)
                    (setF (0 + x20.toNat) (2 + 1)
                      (T.int IntKind.i64 (IntKind.i64.wrap (IntKind.i64.wrap (IntKind.i64.wrap (x4 + 1) + 1) + 1)))
                      (setF (0 + x20.toNat) (2 + 0)
                        (T.int IntKind.i64 (IntKind.i64.wrap (IntKind.i64.wrap (x4 + 1) + 1)))
                        (setF (0 + x20.toNat) (0 + 1) (T.int IntKind.i64 (IntKind.i64.wrap (x4 + 1)))
                          (setF (0 + x20.toNat) (0 + 0) (T.int IntKind.i64 x4) fx2)))))))))
          (0 + x20.toNat) (9 + 0)).ln.beq
    (f_mkSfS r2).length &&
  ((0 + x20.toNat).blt nx2 && true && true)) <|
  gd (decide (0 ≤ x20) && (x20.toNat.blt l.length && true)) <|
  gd ((0 + x20.toNat).blt nx2 && true &&
  ((setF (0 + x20.toNat) (9 + 0) (T.arr 1 (f_mkSfS r2).length (atL Sf.cs (f_mkSfS r2)))
        (setF (0 + x20.toNat) (9 + 0)
          (T.lent 1
            (setF (0 + x20.toNat) 8
                (T.int IntKind.i64
                  (IntKind.i64.wrap (IntKind.i64.wrap (IntKind.i64.wrap (f_ctHdS r1 + 1) + 1) + 1)))
                (setF (0 + x20.toNat) 7
                  (T.bool ((IntKind.i64.wrap (IntKind.i64.wrap (f_ctHdS r1 + 1) + 1)).tmod 3 == 0))
                  (setF (0 + x20.toNat) 6 (T.int IntKind.i64 (IntKind.i64.wrap (f_ctHdS r1 + 1)))
                    (setF (0 + x20.toNat) 5 (T.int IntKind.i64 (f_ctHdS r1))
                      (setF (0 + x20.toNat) (4 + 0) (T.arr 2 (f_mkHdS r1).length (atL Hd.cs (f_mkHdS r1)))
                        (setF (0 + x20.toNat) (4 + 0)
                          (T.lent 2
                            (setF (0 + x20.toNat) (2 + 1)
                                (T.int IntKind.i64
                                  (IntKind.i64.wrap (IntKind.i64.wrap (IntKind.i64.wrap (x4 + 1) + 1) + 1)))
                                (setF (0 + x20.toNat) (2 + 0)
                                  (T.int IntKind.i64 (IntKind.i64.wrap (IntKind.i64.wrap (x4 + 1) + 1)))
                                  (setF (0 + x20.toNat) (0 + 1) (T.int IntKind.i64 (IntKind.i64.wrap (x4 + 1)))
                                    (setF (0 + x20.toNat) (0 + 0) (T.int IntKind.i64 x4) fx2)))
                                (0 + x20.toNat) (4 + 0)).ln)
                          (setF (0 + x20.toNat) (2 + 1)
                            (T.int IntKind.i64
                              (IntKind.i64.wrap (IntKind.i64.wrap (IntKind.i64.wrap (x4 + 1) + 1) + 1)))
                            (setF (0 + x20.toNat) (2 + 0)
                              (T.int IntKind.i64 (IntKind.i64.wrap (IntKind.i64.wrap (x4 + 1) + 1)))
                              (setF (0 + x20.toNat) (0 + 1) (T.int IntKind.i64 (IntKind.i64.wrap (x4 + 1)))
                                (setF (0 + x20.toNat) (0 + 0) (T.int IntKind.i64 x4) fx2)))))))))
                (0 + x20.toNat) (9 + 0)).ln)
          (setF (0 + x20.toNat) 8
            (T.int IntKind.i64 (IntKind.i64.wrap (IntKind.i64.wrap (IntKind.i64.wrap (f_ctHdS r1 + 1) + 1) + 1)))
            (setF (0 + x20.toNat) 7
              (T.bool ((IntKind.i64.wrap (IntKind.i64.wrap (f_ctHdS r1 + 1) + 1)).tmod 3 == 0))
              (setF (0 + x20.toNat) 6 (T.int IntKind.i64 (IntKind.i64.wrap (f_ctHdS r1 + 1)))
                (setF (0 + x20.toNat) 5 (T.int IntKind.i64 (f_ctHdS r1))
                  (setF (0 + x20.toNat) (4 + 0) (T.arr 2 (f_mkHdS r1).length (atL Hd.cs (f_mkHdS r1)))
                    (setF (0 + x20.toNat) (4 + 0)
                      (T.lent 2
                        (setF (0 + x20.toNat) (2 + 1)
                            (T.int IntKind.i64
                              (IntKind.i64.wrap (IntKind.i64.wrap (IntKind.i64.wrap (x4 + 1) + 1) + 1)))
                            (setF (0 + x20.toNat) (2 + 0)
                              (T.int IntKind.i64 (IntKind.i64.wrap (IntKind.i64.wrap (x4 + 1) + 1)))
                              (setF (0 + x20.toNat) (0 + 1) (T.int IntKind.i64 (IntKind.i64.wrap (x4 + 1)))
                                (setF (0 + x20.toNat) (0 + 0) (T.int IntKind.i64 x4) fx2)))
                            (0 + x20.toNat) (4 + 0)).ln)
                      (setF (0 + x20.toNat) (2 + 1)
                        (T.int IntKind.i64 (IntKind.i64.wrap (IntKind.i64.wrap (IntKind.i64.wrap (x4 + 1) + 1) + 1)))
                        (setF (0 + x20.toNat) (2 + 0)
                          (T.int IntKind.i64 (IntKind.i64.wrap (IntKind.i64.wrap (x4 + 1) + 1)))
                          (setF (0 + x20.toNat) (0 + 1) (T.int IntKind.i64 (IntKind.i64.wrap (x4 + 1)))
                            (setF (0 + x20.toNat) (0 + 0) (T.int IntKind.i64 x4) fx2)))))))))))
        (0 + x20.toNat) (10 + 0)).isArr &&
    (setF (0 + x20.toNat) (9 + 0) (T.arr 1 (f_mkSfS r2).length (atL Sf.cs (f_mkSfS r2)))
            (setF (0 + x20.toNat) (9 + 0)
              (T.lent 1
                (setF (0 + x20.toNat) 8
                    (T.int IntKind.i64
                      (IntKind.i64.wrap (IntKind.i64.wrap (IntKind.i64.wrap (f_ctHdS r1 + 1) + 1) + 1)))
                    (setF (0 + x20.toNat) 7
                      (T.bool ((IntKind.i64.wrap (IntKind.i64.wrap (f_ctHdS r1 + 1) + 1)).tmod 3 == 0))
                      (setF (0 + x20.toNat) 6 (T.int IntKind.i64 (IntKind.i64.wrap (f_ctHdS r1 + 1)))
                        (setF (0 + x20.toNat) 5 (T.int IntKind.i64 (f_ctHdS r1))
                          (setF (0 + x20.toNat) (4 + 0)
                            (T.arr 2 (f_mkHdS r1).length (atL Hd.cs (f_mkHdS r1)))
                            (setF (0 + x20.toNat) (4 + 0)
                              (T.lent 2
                                (setF (0 + x20.toNat) (2 + 1)
                                    (T.int IntKind.i64
                                      (IntKind.i64.wrap (IntKind.i64.wrap (IntKind.i64.wrap (x4 + 1) + 1) + 1)))
                                    (setF (0 + x20.toNat) (2 + 0)
                                      (T.int IntKind.i64 (IntKind.i64.wrap (IntKind.i64.wrap (x4 + 1) + 1)))
                                      (setF (0 + x20.toNat) (0 + 1) (T.int IntKind.i64 (IntKind.i64.wrap (x4 + 1)))
                                        (setF (0 + x20.toNat) (0 + 0) (T.int IntKind.i64 x4) fx2)))
                                    (0 + x20.toNat) (4 + 0)).ln)
                              (setF (0 + x20.toNat) (2 + 1)
                                (T.int IntKind.i64
                                  (IntKind.i64.wrap (IntKind.i64.wrap (IntKind.i64.wrap (x4 + 1) + 1) + 1)))
                                (setF (0 + x20.toNat) (2 + 0)
                                  (T.int IntKind.i64 (IntKind.i64.wrap (IntKind.i64.wrap (x4 + 1) + 1)))
                                  (setF (0 + x20.toNat) (0 + 1) (T.int IntKind.i64 (IntKind.i64.wrap (x4 + 1)))
                                    (setF (0 + x20.toNat) (0 + 0) (T.int IntKind.i64 x4) fx2)))))))))
                    (0 + x20.toNat) (9 + 0)).ln)
              (setF (0 + x20.toNat) 8
                (T.int IntKind.i64
                  (IntKind.i64.wrap (IntKind.i64.wrap (IntKind.i64.wrap (f_ctHdS r1 + 1) + 1) + 1)))
                (setF (0 + x20.toNat) 7
                  (T.bool ((IntKind.i64.wrap (IntKind.i64.wrap (f_ctHdS r1 + 1) + 1)).tmod 3 == 0))
                  (setF (0 + x20.toNat) 6 (T.int IntKind.i64 (IntKind.i64.wrap (f_ctHdS r1 + 1)))
                    (setF (0 + x20.toNat) 5 (T.int IntKind.i64 (f_ctHdS r1))
                      (setF (0 + x20.toNat) (4 + 0) (T.arr 2 (f_mkHdS r1).length (atL Hd.cs (f_mkHdS r1)))
                        (setF (0 + x20.toNat) (4 + 0)
                          (T.lent 2
                            (setF (0 + x20.toNat) (2 + 1)
                                (T.int IntKind.i64
                                  (IntKind.i64.wrap (IntKind.i64.wrap (IntKind.i64.wrap (x4 + 1) + 1) + 1)))
                                (setF (0 + x20.toNat) (2 + 0)
                                  (T.int IntKind.i64 (IntKind.i64.wrap (IntKind.i64.wrap (x4 + 1) + 1)))
                                  (setF (0 + x20.toNat) (0 + 1) (T.int IntKind.i64 (IntKind.i64.wrap (x4 + 1)))
                                    (setF (0 + x20.toNat) (0 + 0) (T.int IntKind.i64 x4) fx2)))
                                (0 + x20.toNat) (4 + 0)).ln)
                          (setF (0 + x20.toNat) (2 + 1)
                            (T.int IntKind.i64
                              (IntKind.i64.wrap (IntKind.i64.wrap (IntKind.i64.wrap (x4 + 1) + 1) + 1)))
                            (setF (0 + x20.toNat) (2 + 0)
                              (T.int IntKind.i64 (IntKind.i64.wrap (IntKind.i64.wrap (x4 + 1) + 1)))
                              (setF (0 + x20.toNat) (0 + 1) (T.int IntKind.i64 (IntKind.i64.wrap (x4 + 1)))
                                (setF (0 + x20.toNat) (0 + 0) (T.int IntKind.i64 x4) fx2)))))))))))
            (0 + x20.toNat) (10 + 0)).wd.beq
      1)) <|
  gd ((0 + x20.toNat).blt nx2 && true && true &&
  ((T.arr 11 nx2
          (setF (0 + x20.toNat) (9 + 0) (T.arr 1 (f_mkSfS r2).length (atL Sf.cs (f_mkSfS r2)))
            (setF (0 + x20.toNat) (9 + 0)
              (T.lent 1
                (setF (0 + x20.toNat) 8
                    (T.int IntKind.i64
                      (IntKind.i64.wrap (IntKind.i64.wrap (IntKind.i64.wrap (f_ctHdS r1 + 1) + 1) + 1)))
                    (setF (0 + x20.toNat) 7
                      (T.bool ((IntKind.i64.wrap (IntKind.i64.wrap (f_ctHdS r1 + 1) + 1)).tmod 3 == 0))
                      (setF (0 + x20.toNat) 6 (T.int IntKind.i64 (IntKind.i64.wrap (f_ctHdS r1 + 1)))
                        (setF (0 + x20.toNat) 5 (T.int IntKind.i64 (f_ctHdS r1))
                          (setF (0 + x20.toNat) (4 + 0)
                            (T.arr 2 (f_mkHdS r1).length (atL Hd.cs (f_mkHdS r1)))
                            (setF (0 + x20.toNat) (4 + 0)
                              (T.lent 2
                                (setF (0 + x20.toNat) (2 + 1)
                                    (T.int IntKind.i64
                                      (IntKind.i64.wrap (IntKind.i64.wrap (IntKind.i64.wrap (x4 + 1) + 1) + 1)))
                                    (setF (0 + x20.toNat) (2 + 0)
                                      (T.int IntKind.i64 (IntKind.i64.wrap (IntKind.i64.wrap (x4 + 1) + 1)))
                                      (setF (0 + x20.toNat) (0 + 1) (T.int IntKind.i64 (IntKind.i64.wrap (x4 + 1)))
                                        (setF (0 + x20.toNat) (0 + 0) (T.int IntKind.i64 x4) fx2)))
                                    (0 + x20.toNat) (4 + 0)).ln)
                              (setF (0 + x20.toNat) (2 + 1)
                                (T.int IntKind.i64
                                  (IntKind.i64.wrap (IntKind.i64.wrap (IntKind.i64.wrap (x4 + 1) + 1) + 1)))
                                (setF (0 + x20.toNat) (2 + 0)
                                  (T.int IntKind.i64 (IntKind.i64.wrap (IntKind.i64.wrap (x4 + 1) + 1)))
                                  (setF (0 + x20.toNat) (0 + 1) (T.int IntKind.i64 (IntKind.i64.wrap (x4 + 1)))
                                    (setF (0 + x20.toNat) (0 + 0) (T.int IntKind.i64 x4) fx2)))))))))
                    (0 + x20.toNat) (9 + 0)).ln)
              (setF (0 + x20.toNat) 8
                (T.int IntKind.i64
                  (IntKind.i64.wrap (IntKind.i64.wrap (IntKind.i64.wrap (f_ctHdS r1 + 1) + 1) + 1)))
                (setF (0 + x20.toNat) 7
                  (T.bool ((IntKind.i64.wrap (IntKind.i64.wrap (f_ctHdS r1 + 1) + 1)).tmod 3 == 0))
                  (setF (0 + x20.toNat) 6 (T.int IntKind.i64 (IntKind.i64.wrap (f_ctHdS r1 + 1)))
                    (setF (0 + x20.toNat) 5 (T.int IntKind.i64 (f_ctHdS r1))
                      (setF (0 + x20.toNat) (4 + 0) (T.arr 2 (f_mkHdS r1).length (atL Hd.cs (f_mkHdS r1)))
                        (setF (0 + x20.toNat) (4 + 0)
                          (T.lent 2
                            (setF (0 + x20.toNat) (2 + 1)
                                (T.int IntKind.i64
                                  (IntKind.i64.wrap (IntKind.i64.wrap (IntKind.i64.wrap (x4 + 1) + 1) + 1)))
                                (setF (0 + x20.toNat) (2 + 0)
                                  (T.int IntKind.i64 (IntKind.i64.wrap (IntKind.i64.wrap (x4 + 1) + 1)))
                                  (setF (0 + x20.toNat) (0 + 1) (T.int IntKind.i64 (IntKind.i64.wrap (x4 + 1)))
                                    (setF (0 + x20.toNat) (0 + 0) (T.int IntKind.i64 x4) fx2)))
                                (0 + x20.toNat) (4 + 0)).ln)
                          (setF (0 + x20.toNat) (2 + 1)
                            (T.int IntKind.i64
                              (IntKind.i64.wrap (IntKind.i64.wrap (IntKind.i64.wrap (x4 + 1) + 1) + 1)))
                            (setF (0 + x20.toNat) (2 + 0)
                              (T.int IntKind.i64 (IntKind.i64.wrap (IntKind.i64.wrap (x4 + 1) + 1)))
                              (setF (0 + x20.toNat) (0 + 1) (T.int IntKind.i64 (IntKind.i64.wrap (x4 + 1)))
                                (setF (0 + x20.toNat) (0 + 0) (T.int IntKind.i64 x4) fx2))))))))))))).get
      [0 + x20.toNat, 10 + 0]).isArr) <|
  gd ((setF (0 + x20.toNat) (9 + 0) (T.arr 1 (f_mkSfS r2).length (atL Sf.cs (f_mkSfS r2)))
          (setF (0 + x20.toNat) (9 + 0)
            (T.lent 1
              (setF (0 + x20.toNat) 8
                  (T.int IntKind.i64
                    (IntKind.i64.wrap (IntKind.i64.wrap (IntKind.i64.wrap (f_ctHdS r1 + 1) + 1) + 1)))
                  (setF (0 + x20.toNat) 7
                    (T.bool ((IntKind.i64.wrap (IntKind.i64.wrap (f_ctHdS r1 + 1) + 1)).tmod 3 == 0))
                    (setF (0 + x20.toNat) 6 (T.int IntKind.i64 (IntKind.i64.wrap (f_ctHdS r1 + 1)))
                      (setF (0 + x20.toNat) 5 (T.int IntKind.i64 (f_ctHdS r1))
                        (setF (0 + x20.toNat) (4 + 0)
                          (T.arr 2 (f_mkHdS r1).length (atL Hd.cs (f_mkHdS r1)))
                          (setF (0 + x20.toNat) (4 + 0)
                            (T.lent 2
                              (setF (0 + x20.toNat) (2 + 1)
                                  (T.int IntKind.i64
                                    (IntKind.i64.wrap (IntKind.i64.wrap (IntKind.i64.wrap (x4 + 1) + 1) + 1)))
                                  (setF (0 + x20.toNat) (2 + 0)
                                    (T.int IntKind.i64 (IntKind.i64.wrap (IntKind.i64.wrap (x4 + 1) + 1)))
                                    (setF (0 + x20.toNat) (0 + 1) (T.int IntKind.i64 (IntKind.i64.wrap (x4 + 1)))
                                      (setF (0 + x20.toNat) (0 + 0) (T.int IntKind.i64 x4) fx2)))
                                  (0 + x20.toNat) (4 + 0)).ln)
                            (setF (0 + x20.toNat) (2 + 1)
                              (T.int IntKind.i64
                                (IntKind.i64.wrap (IntKind.i64.wrap (IntKind.i64.wrap (x4 + 1) + 1) + 1)))
                              (setF (0 + x20.toNat) (2 + 0)
                                (T.int IntKind.i64 (IntKind.i64.wrap (IntKind.i64.wrap (x4 + 1) + 1)))
                                (setF (0 + x20.toNat) (0 + 1) (T.int IntKind.i64 (IntKind.i64.wrap (x4 + 1)))
                                  (setF (0 + x20.toNat) (0 + 0) (T.int IntKind.i64 x4) fx2)))))))))
                  (0 + x20.toNat) (9 + 0)).ln)
            (setF (0 + x20.toNat) 8
              (T.int IntKind.i64
                (IntKind.i64.wrap (IntKind.i64.wrap (IntKind.i64.wrap (f_ctHdS r1 + 1) + 1) + 1)))
              (setF (0 + x20.toNat) 7
                (T.bool ((IntKind.i64.wrap (IntKind.i64.wrap (f_ctHdS r1 + 1) + 1)).tmod 3 == 0))
                (setF (0 + x20.toNat) 6 (T.int IntKind.i64 (IntKind.i64.wrap (f_ctHdS r1 + 1)))
                  (setF (0 + x20.toNat) 5 (T.int IntKind.i64 (f_ctHdS r1))
                    (setF (0 + x20.toNat) (4 + 0) (T.arr 2 (f_mkHdS r1).length (atL Hd.cs (f_mkHdS r1)))
                      (setF (0 + x20.toNat) (4 + 0)
                        (T.lent 2
                          (setF (0 + x20.toNat) (2 + 1)
                              (T.int IntKind.i64
                                (IntKind.i64.wrap (IntKind.i64.wrap (IntKind.i64.wrap (x4 + 1) + 1) + 1)))
                              (setF (0 + x20.toNat) (2 + 0)
                                (T.int IntKind.i64 (IntKind.i64.wrap (IntKind.i64.wrap (x4 + 1) + 1)))
                                (setF (0 + x20.toNat) (0 + 1) (T.int IntKind.i64 (IntKind.i64.wrap (x4 + 1)))
                                  (setF (0 + x20.toNat) (0 + 0) (T.int IntKind.i64 x4) fx2)))
                              (0 + x20.toNat) (4 + 0)).ln)
                        (setF (0 + x20.toNat) (2 + 1)
                          (T.int IntKind.i64 (IntKind.i64.wrap (IntKind.i64.wrap (IntKind.i64.wrap (x4 + 1) + 1) + 1)))
                          (setF (0 + x20.toNat) (2 + 0)
                            (T.int IntKind.i64 (IntKind.i64.wrap (IntKind.i64.wrap (x4 + 1) + 1)))
                            (setF (0 + x20.toNat) (0 + 1) (T.int IntKind.i64 (IntKind.i64.wrap (x4 + 1)))
                              (setF (0 + x20.toNat) (0 + 0) (T.int IntKind.i64 x4) fx2)))))))))))
          (0 + x20.toNat) (10 + 0)).ln.beq
    ((T.arr 11 nx2
            (setF (0 + x20.toNat) (9 + 0) (T.arr 1 (f_mkSfS r2).length (atL Sf.cs (f_mkSfS r2)))
              (setF (0 + x20.toNat) (9 + 0)
                (T.lent 1
                  (setF (0 + x20.toNat) 8
                      (T.int IntKind.i64
                        (IntKind.i64.wrap (IntKind.i64.wrap (IntKind.i64.wrap (f_ctHdS r1 + 1) + 1) + 1)))
                      (setF (0 + x20.toNat) 7
                        (T.bool ((IntKind.i64.wrap (IntKind.i64.wrap (f_ctHdS r1 + 1) + 1)).tmod 3 == 0))
                        (setF (0 + x20.toNat) 6 (T.int IntKind.i64 (IntKind.i64.wrap (f_ctHdS r1 + 1)))
                          (setF (0 + x20.toNat) 5 (T.int IntKind.i64 (f_ctHdS r1))
                            (setF (0 + x20.toNat) (4 + 0)
                              (T.arr 2 (f_mkHdS r1).length (atL Hd.cs (f_mkHdS r1)))
                              (setF (0 + x20.toNat) (4 + 0)
                                (T.lent 2
                                  (setF (0 + x20.toNat) (2 + 1)
                                      (T.int IntKind.i64
                                        (IntKind.i64.wrap (IntKind.i64.wrap (IntKind.i64.wrap (x4 + 1) + 1) + 1)))
                                      (setF (0 + x20.toNat) (2 + 0)
                                        (T.int IntKind.i64 (IntKind.i64.wrap (IntKind.i64.wrap (x4 + 1) + 1)))
                                        (setF (0 + x20.toNat) (0 + 1) (T.int IntKind.i64 (IntKind.i64.wrap (x4 + 1)))
                                          (setF (0 + x20.toNat) (0 + 0) (T.int IntKind.i64 x4) fx2)))
                                      (0 + x20.toNat) (4 + 0)).ln)
                                (setF (0 + x20.toNat) (2 + 1)
                                  (T.int IntKind.i64
                                    (IntKind.i64.wrap (IntKind.i64.wrap (IntKind.i64.wrap (x4 + 1) + 1) + 1)))
                                  (setF (0 + x20.toNat) (2 + 0)
                                    (T.int IntKind.i64 (IntKind.i64.wrap (IntKind.i64.wrap (x4 + 1) + 1)))
                                    (setF (0 + x20.toNat) (0 + 1) (T.int IntKind.i64 (IntKind.i64.wrap (x4 + 1)))
                                      (setF (0 + x20.toNat) (0 + 0) (T.int IntKind.i64 x4) fx2)))))))))
                      (0 + x20.toNat) (9 + 0)).ln)
                (setF (0 + x20.toNat) 8
                  (T.int IntKind.i64
                    (IntKind.i64.wrap (IntKind.i64.wrap (IntKind.i64.wrap (f_ctHdS r1 + 1) + 1) + 1)))
                  (setF (0 + x20.toNat) 7
                    (T.bool ((IntKind.i64.wrap (IntKind.i64.wrap (f_ctHdS r1 + 1) + 1)).tmod 3 == 0))
                    (setF (0 + x20.toNat) 6 (T.int IntKind.i64 (IntKind.i64.wrap (f_ctHdS r1 + 1)))
                      (setF (0 + x20.toNat) 5 (T.int IntKind.i64 (f_ctHdS r1))
                        (setF (0 + x20.toNat) (4 + 0)
                          (T.arr 2 (f_mkHdS r1).length (atL Hd.cs (f_mkHdS r1)))
                          (setF (0 + x20.toNat) (4 + 0)
                            (T.lent 2
                              (setF (0 + x20.toNat) (2 + 1)
                                  (T.int IntKind.i64
                                    (IntKind.i64.wrap (IntKind.i64.wrap (IntKind.i64.wrap (x4 + 1) + 1) + 1)))
                                  (setF (0 + x20.toNat) (2 + 0)
                                    (T.int IntKind.i64 (IntKind.i64.wrap (IntKind.i64.wrap (x4 + 1) + 1)))
                                    (setF (0 + x20.toNat) (0 + 1) (T.int IntKind.i64 (IntKind.i64.wrap (x4 + 1)))
                                      (setF (0 + x20.toNat) (0 + 0) (T.int IntKind.i64 x4) fx2)))
                                  (0 + x20.toNat) (4 + 0)).ln)
                            (setF (0 + x20.toNat) (2 + 1)
                              (T.int IntKind.i64
                                (IntKind.i64.wrap (IntKind.i64.wrap (IntKind.i64.wrap (x4 + 1) + 1) + 1)))
                              (setF (0 + x20.toNat) (2 + 0)
                                (T.int IntKind.i64 (IntKind.i64.wrap (IntKind.i64.wrap (x4 + 1) + 1)))
                                (setF (0 + x20.toNat) (0 + 1) (T.int IntKind.i64 (IntKind.i64.wrap (x4 + 1)))
                                  (setF (0 + x20.toNat) (0 + 0) (T.int IntKind.i64 x4) fx2))))))))))))).get
        [0 + x20.toNat, 10 + 0]).ln &&
  Nat.beq 1
    ((T.arr 11 nx2
            (setF (0 + x20.toNat) (9 + 0) (T.arr 1 (f_mkSfS r2).length (atL Sf.cs (f_mkSfS r2)))
              (setF (0 + x20.toNat) (9 + 0)
                (T.lent 1
                  (setF (0 + x20.toNat) 8
                      (T.int IntKind.i64
                        (IntKind.i64.wrap (IntKind.i64.wrap (IntKind.i64.wrap (f_ctHdS r1 + 1) + 1) + 1)))
                      (setF (0 + x20.toNat) 7
                        (T.bool ((IntKind.i64.wrap (IntKind.i64.wrap (f_ctHdS r1 + 1) + 1)).tmod 3 == 0))
                        (setF (0 + x20.toNat) 6 (T.int IntKind.i64 (IntKind.i64.wrap (f_ctHdS r1 + 1)))
                          (setF (0 + x20.toNat) 5 (T.int IntKind.i64 (f_ctHdS r1))
                            (setF (0 + x20.toNat) (4 + 0)
                              (T.arr 2 (f_mkHdS r1).length (atL Hd.cs (f_mkHdS r1)))
                              (setF (0 + x20.toNat) (4 + 0)
                                (T.lent 2
                                  (setF (0 + x20.toNat) (2 + 1)
                                      (T.int IntKind.i64
                                        (IntKind.i64.wrap (IntKind.i64.wrap (IntKind.i64.wrap (x4 + 1) + 1) + 1)))
                                      (setF (0 + x20.toNat) (2 + 0)
                                        (T.int IntKind.i64 (IntKind.i64.wrap (IntKind.i64.wrap (x4 + 1) + 1)))
                                        (setF (0 + x20.toNat) (0 + 1) (T.int IntKind.i64 (IntKind.i64.wrap (x4 + 1)))
                                          (setF (0 + x20.toNat) (0 + 0) (T.int IntKind.i64 x4) fx2)))
                                      (0 + x20.toNat) (4 + 0)).ln)
                                (setF (0 + x20.toNat) (2 + 1)
                                  (T.int IntKind.i64
                                    (IntKind.i64.wrap (IntKind.i64.wrap (IntKind.i64.wrap (x4 + 1) + 1) + 1)))
                                  (setF (0 + x20.toNat) (2 + 0)
                                    (T.int IntKind.i64 (IntKind.i64.wrap (IntKind.i64.wrap (x4 + 1) + 1)))
                                    (setF (0 + x20.toNat) (0 + 1) (T.int IntKind.i64 (IntKind.i64.wrap (x4 + 1)))
                                      (setF (0 + x20.toNat) (0 + 0) (T.int IntKind.i64 x4) fx2)))))))))
                      (0 + x20.toNat) (9 + 0)).ln)
                (setF (0 + x20.toNat) 8
                  (T.int IntKind.i64
                    (IntKind.i64.wrap (IntKind.i64.wrap (IntKind.i64.wrap (f_ctHdS r1 + 1) + 1) + 1)))
                  (setF (0 + x20.toNat) 7
                    (T.bool ((IntKind.i64.wrap (IntKind.i64.wrap (f_ctHdS r1 + 1) + 1)).tmod 3 == 0))
                    (setF (0 + x20.toNat) 6 (T.int IntKind.i64 (IntKind.i64.wrap (f_ctHdS r1 + 1)))
                      (setF (0 + x20.toNat) 5 (T.int IntKind.i64 (f_ctHdS r1))
                        (setF (0 + x20.toNat) (4 + 0)
                          (T.arr 2 (f_mkHdS r1).length (atL Hd.cs (f_mkHdS r1)))
                          (setF (0 + x20.toNat) (4 + 0)
                            (T.lent 2
                              (setF (0 + x20.toNat) (2 + 1)
                                  (T.int IntKind.i64
                                    (IntKind.i64.wrap (IntKind.i64.wrap (IntKind.i64.wrap (x4 + 1) + 1) + 1)))
                                  (setF (0 + x20.toNat) (2 + 0)
                                    (T.int IntKind.i64 (IntKind.i64.wrap (IntKind.i64.wrap (x4 + 1) + 1)))
                                    (setF (0 + x20.toNat) (0 + 1) (T.int IntKind.i64 (IntKind.i64.wrap (x4 + 1)))
                                      (setF (0 + x20.toNat) (0 + 0) (T.int IntKind.i64 x4) fx2)))
                                  (0 + x20.toNat) (4 + 0)).ln)
                            (setF (0 + x20.toNat) (2 + 1)
                              (T.int IntKind.i64
                                (IntKind.i64.wrap (IntKind.i64.wrap (IntKind.i64.wrap (x4 + 1) + 1) + 1)))
                              (setF (0 + x20.toNat) (2 + 0)
                                (T.int IntKind.i64 (IntKind.i64.wrap (IntKind.i64.wrap (x4 + 1) + 1)))
                                (setF (0 + x20.toNat) (0 + 1) (T.int IntKind.i64 (IntKind.i64.wrap (x4 + 1)))
                                  (setF (0 + x20.toNat) (0 + 0) (T.int IntKind.i64 x4) fx2))))))))))))).get
        [0 + x20.toNat, 10 + 0]).wd) <|
  entK okh_LI eam_LI (fun x => x) [(1, false,
    [C.tr true
        (T.arr 1
          (setF (0 + x20.toNat) (9 + 0) (T.arr 1 (f_mkSfS r2).length (atL Sf.cs (f_mkSfS r2)))
              (setF (0 + x20.toNat) (9 + 0)
                (T.lent 1
                  (setF (0 + x20.toNat) 8
                      (T.int IntKind.i64
                        (IntKind.i64.wrap (IntKind.i64.wrap (IntKind.i64.wrap (f_ctHdS r1 + 1) + 1) + 1)))
                      (setF (0 + x20.toNat) 7
                        (T.bool ((IntKind.i64.wrap (IntKind.i64.wrap (f_ctHdS r1 + 1) + 1)).tmod 3 == 0))
                        (setF (0 + x20.toNat) 6 (T.int IntKind.i64 (IntKind.i64.wrap (f_ctHdS r1 + 1)))
                          (setF (0 + x20.toNat) 5 (T.int IntKind.i64 (f_ctHdS r1))
                            (setF (0 + x20.toNat) (4 + 0)
                              (T.arr 2 (f_mkHdS r1).length (atL Hd.cs (f_mkHdS r1)))
                              (setF (0 + x20.toNat) (4 + 0)
                                (T.lent 2
                                  (setF (0 + x20.toNat) (2 + 1)
                                      (T.int IntKind.i64
                                        (IntKind.i64.wrap (IntKind.i64.wrap (IntKind.i64.wrap (x4 + 1) + 1) + 1)))
                                      (setF (0 + x20.toNat) (2 + 0)
                                        (T.int IntKind.i64 (IntKind.i64.wrap (IntKind.i64.wrap (x4 + 1) + 1)))
                                        (setF (0 + x20.toNat) (0 + 1) (T.int IntKind.i64 (IntKind.i64.wrap (x4 + 1)))
                                          (setF (0 + x20.toNat) (0 + 0) (T.int IntKind.i64 x4) fx2)))
                                      (0 + x20.toNat) (4 + 0)).ln)
                                (setF (0 + x20.toNat) (2 + 1)
                                  (T.int IntKind.i64
                                    (IntKind.i64.wrap (IntKind.i64.wrap (IntKind.i64.wrap (x4 + 1) + 1) + 1)))
                                  (setF (0 + x20.toNat) (2 + 0)
                                    (T.int IntKind.i64 (IntKind.i64.wrap (IntKind.i64.wrap (x4 + 1) + 1)))
                                    (setF (0 + x20.toNat) (0 + 1) (T.int IntKind.i64 (IntKind.i64.wrap (x4 + 1)))
                                      (setF (0 + x20.toNat) (0 + 0) (T.int IntKind.i64 x4) fx2)))))))))
                      (0 + x20.toNat) (9 + 0)).ln)
                (setF (0 + x20.toNat) 8
                  (T.int IntKind.i64
                    (IntKind.i64.wrap (IntKind.i64.wrap (IntKind.i64.wrap (f_ctHdS r1 + 1) + 1) + 1)))
                  (setF (0 + x20.toNat) 7
                    (T.bool ((IntKind.i64.wrap (IntKind.i64.wrap (f_ctHdS r1 + 1) + 1)).tmod 3 == 0))
                    (setF (0 + x20.toNat) 6 (T.int IntKind.i64 (IntKind.i64.wrap (f_ctHdS r1 + 1)))
                      (setF (0 + x20.toNat) 5 (T.int IntKind.i64 (f_ctHdS r1))
                        (setF (0 + x20.toNat) (4 + 0)
                          (T.arr 2 (f_mkHdS r1).length (atL Hd.cs (f_mkHdS r1)))
                          (setF (0 + x20.toNat) (4 + 0)
                            (T.lent 2
                              (setF (0 + x20.toNat) (2 + 1)
                                  (T.int IntKind.i64
                                    (IntKind.i64.wrap (IntKind.i64.wrap (IntKind.i64.wrap (x4 + 1) + 1) + 1)))
                                  (setF (0 + x20.toNat) (2 + 0)
                                    (T.int IntKind.i64 (IntKind.i64.wrap (IntKind.i64.wrap (x4 + 1) + 1)))
                                    (setF (0 + x20.toNat) (0 + 1) (T.int IntKind.i64 (IntKind.i64.wrap (x4 + 1)))
                                      (setF (0 + x20.toNat) (0 + 0) (T.int IntKind.i64 x4) fx2)))
                                  (0 + x20.toNat) (4 + 0)).ln)
                            (setF (0 + x20.toNat) (2 + 1)
                              (T.int IntKind.i64
                                (IntKind.i64.wrap (IntKind.i64.wrap (IntKind.i64.wrap (x4 + 1) + 1) + 1)))
                              (setF (0 + x20.toNat) (2 + 0)
                                (T.int IntKind.i64 (IntKind.i64.wrap (IntKind.i64.wrap (x4 + 1) + 1)))
                                (setF (0 + x20.toNat) (0 + 1) (T.int IntKind.i64 (IntKind.i64.wrap (x4 + 1)))
                                  (setF (0 + x20.toNat) (0 + 0) (T.int IntKind.i64 x4) fx2)))))))))))
              (0 + x20.toNat) (10 + 0)).ln
          ((T.arr 11 nx2
                  (setF (0 + x20.toNat) (9 + 0) (T.arr 1 (f_mkSfS r2).length (atL Sf.cs (f_mkSfS r2)))
                    (setF (0 + x20.toNat) (9 + 0)
                      (T.lent 1
                        (setF (0 + x20.toNat) 8
                            (T.int IntKind.i64
                              (IntKind.i64.wrap (IntKind.i64.wrap (IntKind.i64.wrap (f_ctHdS r1 + 1) + 1) + 1)))
                            (setF (0 + x20.toNat) 7
                              (T.bool ((IntKind.i64.wrap (IntKind.i64.wrap (f_ctHdS r1 + 1) + 1)).tmod 3 == 0))
                              (setF (0 + x20.toNat) 6 (T.int IntKind.i64 (IntKind.i64.wrap (f_ctHdS r1 + 1)))
                                (setF (0 + x20.toNat) 5 (T.int IntKind.i64 (f_ctHdS r1))
                                  (setF (0 + x20.toNat) (4 + 0)
                                    (T.arr 2 (f_mkHdS r1).length (atL Hd.cs (f_mkHdS r1)))
                                    (setF (0 + x20.toNat) (4 + 0)
                                      (T.lent 2
                                        (setF (0 + x20.toNat) (2 + 1)
                                            (T.int IntKind.i64
                                              (IntKind.i64.wrap (IntKind.i64.wrap (IntKind.i64.wrap (x4 + 1) + 1) + 1)))
                                            (setF (0 + x20.toNat) (2 + 0)
                                              (T.int IntKind.i64 (IntKind.i64.wrap (IntKind.i64.wrap (x4 + 1) + 1)))
                                              (setF (0 + x20.toNat) (0 + 1)
                                                (T.int IntKind.i64 (IntKind.i64.wrap (x4 + 1)))
                                                (setF (0 + x20.toNat) (0 + 0) (T.int IntKind.i64 x4) fx2)))
                                            (0 + x20.toNat) (4 + 0)).ln)
                                      (setF (0 + x20.toNat) (2 + 1)
                                        (T.int IntKind.i64
                                          (IntKind.i64.wrap (IntKind.i64.wrap (IntKind.i64.wrap (x4 + 1) + 1) + 1)))
                                        (setF (0 + x20.toNat) (2 + 0)
                                          (T.int IntKind.i64 (IntKind.i64.wrap (IntKind.i64.wrap (x4 + 1) + 1)))
                                          (setF (0 + x20.toNat) (0 + 1) (T.int IntKind.i64 (IntKind.i64.wrap (x4 + 1)))
                                            (setF (0 + x20.toNat) (0 + 0) (T.int IntKind.i64 x4) fx2)))))))))
                            (0 + x20.toNat) (9 + 0)).ln)
                      (setF (0 + x20.toNat) 8
                        (T.int IntKind.i64
                          (IntKind.i64.wrap (IntKind.i64.wrap (IntKind.i64.wrap (f_ctHdS r1 + 1) + 1) + 1)))
                        (setF (0 + x20.toNat) 7
                          (T.bool ((IntKind.i64.wrap (IntKind.i64.wrap (f_ctHdS r1 + 1) + 1)).tmod 3 == 0))
                          (setF (0 + x20.toNat) 6 (T.int IntKind.i64 (IntKind.i64.wrap (f_ctHdS r1 + 1)))
                            (setF (0 + x20.toNat) 5 (T.int IntKind.i64 (f_ctHdS r1))
                              (setF (0 + x20.toNat) (4 + 0)
                                (T.arr 2 (f_mkHdS r1).length (atL Hd.cs (f_mkHdS r1)))
                                (setF (0 + x20.toNat) (4 + 0)
                                  (T.lent 2
                                    (setF (0 + x20.toNat) (2 + 1)
                                        (T.int IntKind.i64
                                          (IntKind.i64.wrap (IntKind.i64.wrap (IntKind.i64.wrap (x4 + 1) + 1) + 1)))
                                        (setF (0 + x20.toNat) (2 + 0)
                                          (T.int IntKind.i64 (IntKind.i64.wrap (IntKind.i64.wrap (x4 + 1) + 1)))
                                          (setF (0 + x20.toNat) (0 + 1) (T.int IntKind.i64 (IntKind.i64.wrap (x4 + 1)))
                                            (setF (0 + x20.toNat) (0 + 0) (T.int IntKind.i64 x4) fx2)))
                                        (0 + x20.toNat) (4 + 0)).ln)
                                  (setF (0 + x20.toNat) (2 + 1)
                                    (T.int IntKind.i64
                                      (IntKind.i64.wrap (IntKind.i64.wrap (IntKind.i64.wrap (x4 + 1) + 1) + 1)))
                                    (setF (0 + x20.toNat) (2 + 0)
                                      (T.int IntKind.i64 (IntKind.i64.wrap (IntKind.i64.wrap (x4 + 1) + 1)))
                                      (setF (0 + x20.toNat) (0 + 1) (T.int IntKind.i64 (IntKind.i64.wrap (x4 + 1)))
                                        (setF (0 + x20.toNat) (0 + 0) (T.int IntKind.i64 x4) fx2))))))))))))).get
              [0 + x20.toNat, 10 + 0]).fn)]),
  (0, false, [C.tr false (T.int IntKind.i64 (f_ctSfS r2))])] fun (r3 : List Int × Int) =>
  gd ((setF (0 + x20.toNat) (9 + 0) (T.arr 1 (f_mkSfS r2).length (atL Sf.cs (f_mkSfS r2)))
          (setF (0 + x20.toNat) (9 + 0)
            (T.lent 1
              (setF (0 + x20.toNat) 8
                  (T.int IntKind.i64
                    (IntKind.i64.wrap (IntKind.i64.wrap (IntKind.i64.wrap (f_ctHdS r1 + 1) + 1) + 1)))
                  (setF (0 + x20.toNat) 7
                    (T.bool ((IntKind.i64.wrap (IntKind.i64.wrap (f_ctHdS r1 + 1) + 1)).tmod 3 == 0))
                    (setF (0 + x20.toNat) 6 (T.int IntKind.i64 (IntKind.i64.wrap (f_ctHdS r1 + 1)))
                      (setF (0 + x20.toNat) 5 (T.int IntKind.i64 (f_ctHdS r1))
                        (setF (0 + x20.toNat) (4 + 0)
                          (T.arr 2 (f_mkHdS r1).length (atL Hd.cs (f_mkHdS r1)))
                          (setF (0 + x20.toNat) (4 + 0)
                            (T.lent 2
                              (setF (0 + x20.toNat) (2 + 1)
                                  (T.int IntKind.i64
                                    (IntKind.i64.wrap (IntKind.i64.wrap (IntKind.i64.wrap (x4 + 1) + 1) + 1)))
                                  (setF (0 + x20.toNat) (2 + 0)
                                    (T.int IntKind.i64 (IntKind.i64.wrap (IntKind.i64.wrap (x4 + 1) + 1)))
                                    (setF (0 + x20.toNat) (0 + 1) (T.int IntKind.i64 (IntKind.i64.wrap (x4 + 1)))
                                      (setF (0 + x20.toNat) (0 + 0) (T.int IntKind.i64 x4) fx2)))
                                  (0 + x20.toNat) (4 + 0)).ln)
                            (setF (0 + x20.toNat) (2 + 1)
                              (T.int IntKind.i64
                                (IntKind.i64.wrap (IntKind.i64.wrap (IntKind.i64.wrap (x4 + 1) + 1) + 1)))
                              (setF (0 + x20.toNat) (2 + 0)
                                (T.int IntKind.i64 (IntKind.i64.wrap (IntKind.i64.wrap (x4 + 1) + 1)))
                                (setF (0 + x20.toNat) (0 + 1) (T.int IntKind.i64 (IntKind.i64.wrap (x4 + 1)))
                                  (setF (0 + x20.toNat) (0 + 0) (T.int IntKind.i64 x4) fx2)))))))))
                  (0 + x20.toNat) (9 + 0)).ln)
            (setF (0 + x20.toNat) 8
              (T.int IntKind.i64
                (IntKind.i64.wrap (IntKind.i64.wrap (IntKind.i64.wrap (f_ctHdS r1 + 1) + 1) + 1)))
              (setF (0 + x20.toNat) 7
                (T.bool ((IntKind.i64.wrap (IntKind.i64.wrap (f_ctHdS r1 + 1) + 1)).tmod 3 == 0))
                (setF (0 + x20.toNat) 6 (T.int IntKind.i64 (IntKind.i64.wrap (f_ctHdS r1 + 1)))
                  (setF (0 + x20.toNat) 5 (T.int IntKind.i64 (f_ctHdS r1))
                    (setF (0 + x20.toNat) (4 + 0) (T.arr 2 (f_mkHdS r1).length (atL Hd.cs (f_mkHdS r1)))
                      (setF (0 + x20.toNat) (4 + 0)
                        (T.lent 2
                          (setF (0 + x20.toNat) (2 + 1)
                              (T.int IntKind.i64
                                (IntKind.i64.wrap (IntKind.i64.wrap (IntKind.i64.wrap (x4 + 1) + 1) + 1)))
                              (setF (0 + x20.toNat) (2 + 0)
                                (T.int IntKind.i64 (IntKind.i64.wrap (IntKind.i64.wrap (x4 + 1) + 1)))
                                (setF (0 + x20.toNat) (0 + 1) (T.int IntKind.i64 (IntKind.i64.wrap (x4 + 1)))
                                  (setF (0 + x20.toNat) (0 + 0) (T.int IntKind.i64 x4) fx2)))
                              (0 + x20.toNat) (4 + 0)).ln)
                        (setF (0 + x20.toNat) (2 + 1)
                          (T.int IntKind.i64 (IntKind.i64.wrap (IntKind.i64.wrap (IntKind.i64.wrap (x4 + 1) + 1) + 1)))
                          (setF (0 + x20.toNat) (2 + 0)
                            (T.int IntKind.i64 (IntKind.i64.wrap (IntKind.i64.wrap (x4 + 1) + 1)))
                            (setF (0 + x20.toNat) (0 + 1) (T.int IntKind.i64 (IntKind.i64.wrap (x4 + 1)))
                              (setF (0 + x20.toNat) (0 + 0) (T.int IntKind.i64 x4) fx2)))))))))))
          (0 + x20.toNat) (10 + 0)).ln.beq
    (f_mkLI r3).length &&
  ((0 + x20.toNat).blt nx2 && true && true)) <|
  K .normal (st_mkRmS_1 l k (f_ctLI r3) (IntKind.i64.wrap (x20 + 1)) (nx2) (setF (0 + x20.toNat) (10 + 0) (T.arr 1 (f_mkLI r3).length (atL rowI (f_mkLI r3)))
  (setF (0 + x20.toNat) (10 + 0)
    (T.lent 1
      (setF (0 + x20.toNat) (9 + 0) (T.arr 1 (f_mkSfS r2).length (atL Sf.cs (f_mkSfS r2)))
          (setF (0 + x20.toNat) (9 + 0)
            (T.lent 1
              (setF (0 + x20.toNat) 8
                  (T.int IntKind.i64
                    (IntKind.i64.wrap (IntKind.i64.wrap (IntKind.i64.wrap (f_ctHdS r1 + 1) + 1) + 1)))
                  (setF (0 + x20.toNat) 7
                    (T.bool ((IntKind.i64.wrap (IntKind.i64.wrap (f_ctHdS r1 + 1) + 1)).tmod 3 == 0))
                    (setF (0 + x20.toNat) 6 (T.int IntKind.i64 (IntKind.i64.wrap (f_ctHdS r1 + 1)))
                      (setF (0 + x20.toNat) 5 (T.int IntKind.i64 (f_ctHdS r1))
                        (setF (0 + x20.toNat) (4 + 0)
                          (T.arr 2 (f_mkHdS r1).length (atL Hd.cs (f_mkHdS r1)))
                          (setF (0 + x20.toNat) (4 + 0)
                            (T.lent 2
                              (setF (0 + x20.toNat) (2 + 1)
                                  (T.int IntKind.i64
                                    (IntKind.i64.wrap (IntKind.i64.wrap (IntKind.i64.wrap (x4 + 1) + 1) + 1)))
                                  (setF (0 + x20.toNat) (2 + 0)
                                    (T.int IntKind.i64 (IntKind.i64.wrap (IntKind.i64.wrap (x4 + 1) + 1)))
                                    (setF (0 + x20.toNat) (0 + 1) (T.int IntKind.i64 (IntKind.i64.wrap (x4 + 1)))
                                      (setF (0 + x20.toNat) (0 + 0) (T.int IntKind.i64 x4) fx2)))
                                  (0 + x20.toNat) (4 + 0)).ln)
                            (setF (0 + x20.toNat) (2 + 1)
                              (T.int IntKind.i64
                                (IntKind.i64.wrap (IntKind.i64.wrap (IntKind.i64.wrap (x4 + 1) + 1) + 1)))
                              (setF (0 + x20.toNat) (2 + 0)
                                (T.int IntKind.i64 (IntKind.i64.wrap (IntKind.i64.wrap (x4 + 1) + 1)))
                                (setF (0 + x20.toNat) (0 + 1) (T.int IntKind.i64 (IntKind.i64.wrap (x4 + 1)))
                                  (setF (0 + x20.toNat) (0 + 0) (T.int IntKind.i64 x4) fx2)))))))))
                  (0 + x20.toNat) (9 + 0)).ln)
            (setF (0 + x20.toNat) 8
              (T.int IntKind.i64
                (IntKind.i64.wrap (IntKind.i64.wrap (IntKind.i64.wrap (f_ctHdS r1 + 1) + 1) + 1)))
              (setF (0 + x20.toNat) 7
                (T.bool ((IntKind.i64.wrap (IntKind.i64.wrap (f_ctHdS r1 + 1) + 1)).tmod 3 == 0))
                (setF (0 + x20.toNat) 6 (T.int IntKind.i64 (IntKind.i64.wrap (f_ctHdS r1 + 1)))
                  (setF (0 + x20.toNat) 5 (T.int IntKind.i64 (f_ctHdS r1))
                    (setF (0 + x20.toNat) (4 + 0) (T.arr 2 (f_mkHdS r1).length (atL Hd.cs (f_mkHdS r1)))
                      (setF (0 + x20.toNat) (4 + 0)
                        (T.lent 2
                          (setF (0 + x20.toNat) (2 + 1)
                              (T.int IntKind.i64
                                (IntKind.i64.wrap (IntKind.i64.wrap (IntKind.i64.wrap (x4 + 1) + 1) + 1)))
                              (setF (0 + x20.toNat) (2 + 0)
                                (T.int IntKind.i64 (IntKind.i64.wrap (IntKind.i64.wrap (x4 + 1) + 1)))
                                (setF (0 + x20.toNat) (0 + 1) (T.int IntKind.i64 (IntKind.i64.wrap (x4 + 1)))
                                  (setF (0 + x20.toNat) (0 + 0) (T.int IntKind.i64 x4) fx2)))
                              (0 + x20.toNat) (4 + 0)).ln)
                        (setF (0 + x20.toNat) (2 + 1)
                          (T.int IntKind.i64 (IntKind.i64.wrap (IntKind.i64.wrap (IntKind.i64.wrap (x4 + 1) + 1) + 1)))
                          (setF (0 + x20.toNat) (2 + 0)
                            (T.int IntKind.i64 (IntKind.i64.wrap (IntKind.i64.wrap (x4 + 1) + 1)))
                            (setF (0 + x20.toNat) (0 + 1) (T.int IntKind.i64 (IntKind.i64.wrap (x4 + 1)))
                              (setF (0 + x20.toNat) (0 + 0) (T.int IntKind.i64 x4) fx2)))))))))))
          (0 + x20.toNat) (10 + 0)).ln)
    (setF (0 + x20.toNat) (9 + 0) (T.arr 1 (f_mkSfS r2).length (atL Sf.cs (f_mkSfS r2)))
      (setF (0 + x20.toNat) (9 + 0)
        (T.lent 1
          (setF (0 + x20.toNat) 8
              (T.int IntKind.i64
                (IntKind.i64.wrap (IntKind.i64.wrap (IntKind.i64.wrap (f_ctHdS r1 + 1) + 1) + 1)))
              (setF (0 + x20.toNat) 7
                (T.bool ((IntKind.i64.wrap (IntKind.i64.wrap (f_ctHdS r1 + 1) + 1)).tmod 3 == 0))
                (setF (0 + x20.toNat) 6 (T.int IntKind.i64 (IntKind.i64.wrap (f_ctHdS r1 + 1)))
                  (setF (0 + x20.toNat) 5 (T.int IntKind.i64 (f_ctHdS r1))
                    (setF (0 + x20.toNat) (4 + 0) (T.arr 2 (f_mkHdS r1).length (atL Hd.cs (f_mkHdS r1)))
                      (setF (0 + x20.toNat) (4 + 0)
                        (T.lent 2
                          (setF (0 + x20.toNat) (2 + 1)
                              (T.int IntKind.i64
                                (IntKind.i64.wrap (IntKind.i64.wrap (IntKind.i64.wrap (x4 + 1) + 1) + 1)))
                              (setF (0 + x20.toNat) (2 + 0)
                                (T.int IntKind.i64 (IntKind.i64.wrap (IntKind.i64.wrap (x4 + 1) + 1)))
                                (setF (0 + x20.toNat) (0 + 1) (T.int IntKind.i64 (IntKind.i64.wrap (x4 + 1)))
                                  (setF (0 + x20.toNat) (0 + 0) (T.int IntKind.i64 x4) fx2)))
                              (0 + x20.toNat) (4 + 0)).ln)
                        (setF (0 + x20.toNat) (2 + 1)
                          (T.int IntKind.i64 (IntKind.i64.wrap (IntKind.i64.wrap (IntKind.i64.wrap (x4 + 1) + 1) + 1)))
                          (setF (0 + x20.toNat) (2 + 0)
                            (T.int IntKind.i64 (IntKind.i64.wrap (IntKind.i64.wrap (x4 + 1) + 1)))
                            (setF (0 + x20.toNat) (0 + 1) (T.int IntKind.i64 (IntKind.i64.wrap (x4 + 1)))
                              (setF (0 + x20.toNat) (0 + 0) (T.int IntKind.i64 x4) fx2)))))))))
              (0 + x20.toNat) (9 + 0)).ln)
        (setF (0 + x20.toNat) 8
          (T.int IntKind.i64 (IntKind.i64.wrap (IntKind.i64.wrap (IntKind.i64.wrap (f_ctHdS r1 + 1) + 1) + 1)))
          (setF (0 + x20.toNat) 7
            (T.bool ((IntKind.i64.wrap (IntKind.i64.wrap (f_ctHdS r1 + 1) + 1)).tmod 3 == 0))
            (setF (0 + x20.toNat) 6 (T.int IntKind.i64 (IntKind.i64.wrap (f_ctHdS r1 + 1)))
              (setF (0 + x20.toNat) 5 (T.int IntKind.i64 (f_ctHdS r1))
                (setF (0 + x20.toNat) (4 + 0) (T.arr 2 (f_mkHdS r1).length (atL Hd.cs (f_mkHdS r1)))
                  (setF (0 + x20.toNat) (4 + 0)
                    (T.lent 2
                      (setF (0 + x20.toNat) (2 + 1)
                          (T.int IntKind.i64 (IntKind.i64.wrap (IntKind.i64.wrap (IntKind.i64.wrap (x4 + 1) + 1) + 1)))
                          (setF (0 + x20.toNat) (2 + 0)
                            (T.int IntKind.i64 (IntKind.i64.wrap (IntKind.i64.wrap (x4 + 1) + 1)))
                            (setF (0 + x20.toNat) (0 + 1) (T.int IntKind.i64 (IntKind.i64.wrap (x4 + 1)))
                              (setF (0 + x20.toNat) (0 + 0) (T.int IntKind.i64 x4) fx2)))
                          (0 + x20.toNat) (4 + 0)).ln)
                    (setF (0 + x20.toNat) (2 + 1)
                      (T.int IntKind.i64 (IntKind.i64.wrap (IntKind.i64.wrap (IntKind.i64.wrap (x4 + 1) + 1) + 1)))
                      (setF (0 + x20.toNat) (2 + 0)
                        (T.int IntKind.i64 (IntKind.i64.wrap (IntKind.i64.wrap (x4 + 1) + 1)))
                        (setF (0 + x20.toNat) (0 + 1) (T.int IntKind.i64 (IntKind.i64.wrap (x4 + 1)))
                          (setF (0 + x20.toNat) (0 + 0) (T.int IntKind.i64 x4) fx2)))))))))))))))
 else
 K (.exit 0) (ex_mkRmS_1_1 l k x4 x20 nx2 fx2)) := by kernel_rfl
theorem post_mkRmS_1_1 (l : List Rm) (k : Int) (x4 : Int) (x20 : Int) (nx2 : Nat) (fx2 : Nat → Nat → T) (n : Nat) : contAt prog (tabS [(i_mkHdS, e_mkHdS), (i_mkSfS, e_mkSfS), (i_mkLI, e_mkLI)]) kp_mkRmS F_mkRmS ts_mkRmS [1, 0, 1, 0] [] n (.exit 0) (ex_mkRmS_1_1 l k x4 x20 nx2 fx2) = (
 some ([(false, [.tr true (T.int IntKind.i64 x4)])], [(false, [.tr true (.arr (11) (nx2) (fx2))]), (false, [])])) := by kernel_rfl
theorem pre_mkRmS (l : List Rm) (k : Int) (n : Nat) : body prog (tabS [(i_mkHdS, e_mkHdS), (i_mkSfS, e_mkSfS), (i_mkLI, e_mkLI)]) kp_mkRmS n F_mkRmS [lT (eL 11 Rm.cs l), aI k] = (
 loopAt prog (tabS [(i_mkHdS, e_mkHdS), (i_mkSfS, e_mkSfS), (i_mkLI, e_mkLI)]) kp_mkRmS F_mkRmS [1, 0, 1, 0] n n (st_mkRmS_1 l k (k) (0) (T.ln (eL 11 Rm.cs l)) (T.fn (eL 11 Rm.cs l))) (contAt prog (tabS [(i_mkHdS, e_mkHdS), (i_mkSfS, e_mkSfS), (i_mkLI, e_mkLI)]) kp_mkRmS F_mkRmS ts_mkRmS [1, 0, 1, 0] [] n)) := by kernel_rfl
theorem body_mkRmS (l : List Rm) (k : Int) (h : okh_RmS (l, k)) : body prog (tabS [(i_mkHdS, e_mkHdS), (i_mkSfS, e_mkSfS), (i_mkLI, e_mkLI)]) kp_mkRmS (l.length + 1) F_mkRmS (eam_RmS (l, k)) = some ([oT (.int .i64 (f_ctRmS (l, k)))], [oT (eL 11 Rm.cs (f_mkRmS (l, k))), nul]) := by
  obtain ⟨hl, hk0, hk1⟩ := h
  have hbm := bm
  dsimp only at hl hk0 hk1
  have hl' : l.length ≤ BM := hl.1
  unfold eam_RmS f_ctRmS f_mkRmS
  dsimp only
  rw [pre_mkRmS]
  have hst : st_mkRmS_1 l k k 0 l.length (atL Rm.cs l) = (fun i : Nat => st_mkRmS_1 l k (k + cntL c1_RmS (l.take i)) (i : Nat) l.length (atL Rm.cs (mkd m1_RmS c1_RmS l k i))) 0 := by simp [cntL, mkd_zero]
  refine Eq.trans (congrArg (fun s => loopAt prog _ _ _ _ _ _ s _) hst) ?_
  rw [forLoop l.length (fun i : Nat => st_mkRmS_1 l k (k + cntL c1_RmS (l.take i)) (i : Nat) l.length (atL Rm.cs (mkd m1_RmS c1_RmS l k i))) (ex_mkRmS_1_1 l k (k + cntL c1_RmS l) l.length l.length (atL Rm.cs (mk_RmS l k))) 0 (fun i K hi => ?_) (fun K => ?_) _ (Nat.le_refl _)]
  · rw [post_mkRmS_1_1]
    have := markL_len m1_RmS c1_RmS l k
    rw [eL_T, show (mk_RmS l k).length = l.length from this]
    rfl
  · have hx := List.getElem?_eq_getElem hi
    obtain ⟨x, hxe⟩ : ∃ x, x = l[i] := ⟨_, rfl⟩
    rw [← hxe] at hx
    have hxm : x ∈ l := List.mem_of_getElem? hx
    have hg := mkd_get m1_RmS c1_RmS l k hx
    have hc := cntL_take c1_RmS l hx
    have hcl := cntL_le c1_RmS l (i + 1)
    have hcx : c1_RmS x = 1 + 1 + 1 + 1 + cntL c1_HdS x.kids + 1 + 1 + 1 + 1 + cntL c1_SfS x.things + cntL c1_LI x.tags := rfl
    have h0 := (hl.2 _ hxm).1
    have h1 := (hl.2 _ hxm).2.1
    have h2 := (hl.2 _ hxm).2.2
    rw [hc, round_mkRmS_1]
    have hms := mkd_set m1_RmS c1_RmS l k hx
    have hml : i < (mkd m1_RmS c1_RmS l k i).length := by rw [mkd_len _ _ _ _ (by omega)]; exact hi
    obtain ⟨k0, hk⟩ : ∃ k0, k0 = k + (cntL c1_RmS (l.take i) : Int) := ⟨_, rfl⟩
    have hk2 : k + ((cntL c1_RmS (l.take i) + c1_RmS x : Nat) : Int) = k0 + 1 + 1 + 1 + 1 + cntL c1_HdS x.kids + 1 + 1 + 1 + 1 + cntL c1_SfS x.things + cntL c1_LI x.tags := by omega
    rw [hk2]
    rw [← hk] at hms ⊢
    have g0 : okh_HdS (x.kids, k0 + 1 + 1 + 1 + 1) := ⟨h0, by dsimp only; omega, by dsimp only; omega⟩
    have g1 : okh_SfS (x.things, k0 + 1 + 1 + 1 + 1 + cntL c1_HdS x.kids + 1 + 1 + 1 + 1) := ⟨h1, by dsimp only; omega, by dsimp only; omega⟩
    have g2 : okh_LI (x.tags, k0 + 1 + 1 + 1 + 1 + cntL c1_HdS x.kids + 1 + 1 + 1 + 1 + cntL c1_SfS x.things) := ⟨h2, by dsimp only; omega, by dsimp only; omega⟩
    simp (disch := omega) only [lt_d, ge0_d, Int.toNat_natCast, blt_d, ble_self, beq_self, decide_true, cond_true, Bool.and_self, Bool.and_true, Bool.true_and, gd_true, Nat.zero_add, List.getD_cons_zero, List.getD_cons_succ, isI_int, toI_int, isB_bool, toB_bool, eL_T, arr_ln, arr_fn, arr_wd, arr_is, arr_get, hi, atL_of hg, Rm.cs, wrapI, wrapS, setF_d, and_self, if_true, if_false, true_and, false_and, and_true, and_false, Nat.add_zero, Nat.reduceEqDiff, Nat.reduceAdd, entK_of (dm_mkHdS g0) (iv_mkHdS g0), len_mkHdS, d_mkHdS, d_ctHdS, entK_of (dm_mkSfS g1) (iv_mkSfS g1), len_mkSfS, d_mkSfS, d_ctSfS, entK_of (dm_mkLI g2) (iv_mkLI g2), len_mkLI, d_mkLI, d_ctLI]
    rw [← hms]
    congr 2
    refine set_atL hml fun j' k' => ?_
    by_cases e : j' = i
    · subst e
      rcases k' with _ | _ | _ | _ | _ | _ | _ | _ | _ | _ | _ | k' <;> simp [int_eqM, setF_d, Rm.cs, m1_RmS, atL_of hg, eL_T, len_mkHdS, len_mkSfS, len_mkLI]
    · simp [setF_d, e]
  · rw [round_mkRmS_1, mkd_all]
    simp only [lt_d, Nat.lt_irrefl, decide_false, cond_false, List.take_length]
    rfl
theorem s_mkRmS : EntOk prog i_mkRmS e_mkRmS := ent_ok eam_RmS_inj fun x hx =>
  body_sound (φ := (tabS [(i_mkHdS, e_mkHdS), (i_mkSfS, e_mkSfS), (i_mkLI, e_mkLI)])) (tabS_cons s_mkHdS (tabS_cons s_mkSfS (tabS_cons s_mkLI tabS_nil))) mixed (kp := kp_mkRmS) (n := x.1.length + 1) func80 (c := bodyOf F_mkRmS) (by kernel_rfl) (body_mkRmS x.1 x.2 hx) (name_ok (by kernel_rfl))
theorem dm_hdRmS {l : List Rm} {k : Int} (h : okh_RmS (l, k)) : dom okh_RmS eah_RmS [(0, false, [C.tr false (T.arr 11 l.length (atL Rm.cs l))]), (0, false, [C.tr false (T.int IntKind.i64 k)])] = true := dom_ea (ea := eah_RmS) (x := (l, k)) h
theorem iv_hdRmS {l : List Rm} {k : Int} (h : okh_RmS (l, k)) : inv okh_RmS eah_RmS [(0, false, [C.tr false (T.arr 11 l.length (atL Rm.cs l))]), (0, false, [C.tr false (T.int IntKind.i64 k)])] = (l, k) := inv_ea eah_RmS_inj (x := (l, k)) h
theorem y_hdRmS {l : List Rm} {k : Int} (h : l = mk_RmS l k) : f_hdRmS (l, k) = k + cntL c1_RmS l := if_pos h
theorem n_hdRmS {l : List Rm} {k : Int} (h : ¬ l = mk_RmS l k) : f_hdRmS (l, k) = -1 := if_neg h
theorem dm_mkRmS {l : List Rm} {k : Int} (h : okh_RmS (l, k)) : dom okh_RmS eam_RmS [(1, false, [C.tr true (T.arr 11 l.length (atL Rm.cs l))]), (0, false, [C.tr false (T.int IntKind.i64 k)])] = true := dom_ea (ea := eam_RmS) (x := (l, k)) h
theorem iv_mkRmS {l : List Rm} {k : Int} (h : okh_RmS (l, k)) : inv okh_RmS eam_RmS [(1, false, [C.tr true (T.arr 11 l.length (atL Rm.cs l))]), (0, false, [C.tr false (T.int IntKind.i64 k)])] = (l, k) := inv_ea eam_RmS_inj (x := (l, k)) h
theorem len_mkRmS (l : List Rm) (k : Int) : (mk_RmS l k).length = l.length := markL_len _ _ _ _
theorem d_mkRmS (l : List Rm) (k : Int) : f_mkRmS (l, k) = mk_RmS l k := rfl
theorem d_ctRmS (l : List Rm) (k : Int) : f_ctRmS (l, k) = k + cntL c1_RmS l := rfl
end Go.Mach.F
namespace Go.Mach.F
open Go Go.Mach Go.Proofs.Try
theorem cb_RmS (l : List Rm) : cntL c1_RmS l ≤ 16 * n_RmS l := by
  have := cntL_lin c1_RmS n1_RmS 8 16 l fun x _ => by have := cb_HdS x.kids; have := cb_SfS x.things; have := cb_LI x.tags; show c1_RmS x ≤ _; unfold c1_RmS n1_RmS; omega
  unfold n_RmS
  omega
theorem beq_mkRmS (l : List Rm) (k : Int) : Nat.beq l.length (mk_RmS l k).length = true := by rw [len_mkRmS]; simp only [beq_self]
theorem ct1_RmS (x : Rm) (k : Int) : c1_RmS (m1_RmS x k) = c1_RmS x := by simp only [c1_RmS, m1_RmS, mkmk_HdS, ctmk_HdS, mkmk_SfS, ctmk_SfS, mkmk_LI, ctmk_LI]
theorem mm1_RmS (x : Rm) (k : Int) : m1_RmS (m1_RmS x k) k = m1_RmS x k := by simp only [m1_RmS, mkmk_HdS, ctmk_HdS, mkmk_SfS, ctmk_SfS, mkmk_LI, ctmk_LI]
theorem mkmk_RmS (l : List Rm) (k : Int) : mk_RmS (mk_RmS l k) k = mk_RmS l k := markL_idem m1_RmS c1_RmS (fun x k => mm1_RmS x k) (fun x k => ct1_RmS x k) l k
theorem ctmk_RmS (l : List Rm) (k : Int) : cntL c1_RmS (mk_RmS l k) = cntL c1_RmS l := cntL_mark m1_RmS c1_RmS (fun x k => ct1_RmS x k) l k
theorem okqmk_RmS {l : List Rm} {k : Int} (h : okq_RmS l) : okq_RmS (mk_RmS l k) := ⟨by rw [len_mkRmS]; exact h.1, fun x hx => by
    obtain ⟨i, hi, e⟩ := List.getElem_of_mem hx
    have hi' : i < l.length := by rw [len_mkRmS] at hi; exact hi
    have hg := markL_get m1_RmS c1_RmS l k (List.getElem?_eq_getElem hi')
    have he : (mk_RmS l k)[i]? = some x := by rw [List.getElem?_eq_getElem hi, e]
    rw [show (mk_RmS l k)[i]? = (markL m1_RmS c1_RmS l k)[i]? from rfl, hg] at he
    obtain rfl := Option.some.inj he
    have hy : l[i] ∈ l := List.getElem_mem hi'
    exact ⟨okqmk_HdS ((h.2 _ hy).1), okqmk_SfS ((h.2 _ hy).2.1), okqmk_LI ((h.2 _ hy).2.2)⟩⟩
end Go.Mach.F
namespace Go.Mach.F
open Go Go.Mach Go.Proofs.Try
--=set_option maxRecDepth 100000
def ok_ToMl (x : Ml) : Prop := ok_RmS x.rooms ∧ ok_LI x.log
def ea_ToMl (x : Ml) : List Arg := [aR x.cs]
def f_ToMl (x : Ml) : Ml := x
noncomputable def e_ToMl : Ent := ent [] ok_ToMl ea_ToMl (fun l => erR 1 l.cs) f_ToMl
theorem ea_ToMl_inj (x y : Ml) (h : ea_ToMl x = ea_ToMl y) : x = y := by
  simp only [ea_ToMl, List.cons.injEq, and_true, true_and] at h
  exact Ml.cs_ext (aR_inj h)
theorem dm_ToMl {l : Ml} (h : ok_ToMl l) : dom ok_ToMl ea_ToMl [(0, true, [C.tr false (T.int IntKind.i64 l.c.chunks), C.tr false (T.int IntKind.i64 l.c.size), C.tr false (T.int IntKind.i64 l.c.slots), C.tr false (T.int IntKind.i64 l.c.tax), C.tr false (T.int IntKind.i64 l.c.slice), C.tr false (T.int IntKind.i64 l.c.gens), C.tr false (T.arr 11 l.rooms.length (atL Rm.cs l.rooms)), C.tr false (T.arr 1 l.log.length (atL rowI l.log))])] = true := dom_ea (ea := ea_ToMl) (x := l) h
theorem iv_ToMl {l : Ml} (h : ok_ToMl l) : inv ok_ToMl ea_ToMl [(0, true, [C.tr false (T.int IntKind.i64 l.c.chunks), C.tr false (T.int IntKind.i64 l.c.size), C.tr false (T.int IntKind.i64 l.c.slots), C.tr false (T.int IntKind.i64 l.c.tax), C.tr false (T.int IntKind.i64 l.c.slice), C.tr false (T.int IntKind.i64 l.c.gens), C.tr false (T.arr 11 l.rooms.length (atL Rm.cs l.rooms)), C.tr false (T.arr 1 l.log.length (atL rowI l.log))])] = l := inv_ea ea_ToMl_inj (x := l) h
theorem d_ToMl (l : Ml) : f_ToMl l = l := rfl
def i_ToMl : Nat := 22
noncomputable abbrev F_ToMl : Func := f22
def kp_ToMl : List (Nat × List Nat) := [(0, [4, 5, 8, 9, 12, 13, 64]), (1, [4, 5, 8, 9, 12, 13, 64]), (2, [4, 5, 8, 9, 12, 13, 64]), (3, [4, 5, 8, 9, 12, 13, 64]), (4, [8, 9, 12, 13, 64]), (5, [8, 9, 12, 13, 64])]
theorem pre_ToMl (l : Ml) (n : Nat) : body prog (tabS [(i_toCf, e_toCf), (i_toRmS, e_toRmS), (i_toLI, e_toLI)]) kp_ToMl n F_ToMl [aR l.cs] = (
 gd (dom ok_RmS ea_RmS [(0, false, [C.tr false (eL 11 Rm.cs l.2)])]) <|
 gd ((inv ok_RmS ea_RmS [(0, false, [C.tr false (eL 11 Rm.cs l.2)])]).length.ble
    (inv ok_RmS ea_RmS [(0, false, [C.tr false (eL 11 Rm.cs l.2)])]).length &&
  true) <|
 gd (dom ok_LI ea_LI [(0, false, [C.tr false (eL 1 rowI l.3)])]) <|
 gd ((inv ok_LI ea_LI [(0, false, [C.tr false (eL 1 rowI l.3)])]).length.ble
    (inv ok_LI ea_LI [(0, false, [C.tr false (eL 1 rowI l.3)])]).length &&
  true) <|
 gd ((inv ok_RmS ea_RmS [(0, false, [C.tr false (eL 11 Rm.cs l.2)])]).length.ble
    (inv ok_RmS ea_RmS [(0, false, [C.tr false (eL 11 Rm.cs l.2)])]).length &&
  true) <|
 gd ((inv ok_LI ea_LI [(0, false, [C.tr false (eL 1 rowI l.3)])]).length.ble
    (inv ok_LI ea_LI [(0, false, [C.tr false (eL 1 rowI l.3)])]).length &&
  true) <|
 gd ((inv ok_RmS ea_RmS [(0, false, [C.tr false (eL 11 Rm.cs l.2)])]).length.ble
    (inv ok_RmS ea_RmS [(0, false, [C.tr false (eL 11 Rm.cs l.2)])]).length &&
  true) <|
 gd ((inv ok_LI ea_LI [(0, false, [C.tr false (eL 1 rowI l.3)])]).length.ble
    (inv ok_LI ea_LI [(0, false, [C.tr false (eL 1 rowI l.3)])]).length &&
  true) <|
 some ([(true, [.tr true (T.int IntKind.i64 l.c.1), .tr true (T.int IntKind.i64 l.c.2), .tr true (T.int IntKind.i64 l.c.3), .tr true (T.int IntKind.i64 l.c.4), .tr true (T.int IntKind.i64 l.c.5), .tr true (T.int IntKind.i64 l.c.6), .tr true (.arr (11) ((inv ok_RmS ea_RmS [(0, false, [C.tr false (eL 11 Rm.cs l.2)])]).length) ((eL 11 Rm.cs (inv ok_RmS ea_RmS [(0, false, [C.tr false (eL 11 Rm.cs l.2)])])).fn)), .tr true (.arr (1) ((inv ok_LI ea_LI [(0, false, [C.tr false (eL 1 rowI l.3)])]).length) (atL rowI (inv ok_LI ea_LI [(0, false, [C.tr false (eL 1 rowI l.3)])])))])], [(false, [])])) := by kernel_rfl
theorem body_ToMl (l : Ml) (n : Nat) (h : ok_ToMl l) : body prog (tabS [(i_toCf, e_toCf), (i_toRmS, e_toRmS), (i_toLI, e_toLI)]) kp_ToMl n F_ToMl (ea_ToMl l) = some (erR 1 l.cs) := by
  have h0 : ok_RmS l.rooms := h.1
  have h1 : ok_LI l.log := h.2
  unfold ea_ToMl
  rw [pre_ToMl]
  simp only [lt_d, ge0_d, Int.toNat_natCast, blt_d, ble_self, beq_self, decide_true, cond_true, Bool.and_self, Bool.and_true, Bool.true_and, gd_true, Nat.zero_add, List.getD_cons_zero, List.getD_cons_succ, isI_int, toI_int, isB_bool, toB_bool, eL_T, arr_ln, arr_fn, arr_wd, arr_is, arr_get, Ml.cs, dm_toRmS h0, iv_toRmS h0, dm_toLI h1, iv_toLI h1, cut_all]
  rfl
theorem s_ToMl : EntOk prog i_ToMl e_ToMl := ent_ok ea_ToMl_inj fun x hx =>
  body_sound (φ := (tabS [(i_toCf, e_toCf), (i_toRmS, e_toRmS), (i_toLI, e_toLI)])) (tabS_cons s_toCf (tabS_cons s_toRmS (tabS_cons s_toLI tabS_nil))) mixed (kp := kp_ToMl) (n := 0) func22 (c := bodyOf F_ToMl) (by kernel_rfl) (body_ToMl x 0 hx) (name_ok (by kernel_rfl))
def okq_Ml (l : Ml) : Prop := okq_RmS l.rooms ∧ okq_LI l.log
def n_Ml (l : Ml) : Nat := n_RmS l.rooms + n_LI l.log
def ok_SzMl (x : Ml × Int) : Prop := z_Ml x.1 ∧ 0 ≤ x.2 ∧ x.2 ≤ LM
def ea_SzMl (x : Ml × Int) : List Arg := [aR x.1.cs, aI x.2]
def f_SzMl (x : Ml × Int) : Int := if (n_Ml x.1 : Int) ≤ x.2 then x.2 - n_Ml x.1 else -1
noncomputable def e_SzMl : Ent := ent [] ok_SzMl ea_SzMl (erI 2) f_SzMl
theorem ea_SzMl_inj (x y : Ml × Int) (h : ea_SzMl x = ea_SzMl y) : x = y := by
  obtain ⟨l1, k1⟩ := x
  obtain ⟨l2, k2⟩ := y
  simp only [ea_SzMl, List.cons.injEq, and_true, true_and] at h
  obtain ⟨e0, e1⟩ := h
  obtain rfl := Ml.cs_ext (aR_inj e0)
  obtain rfl := aI_inj e1
  rfl
theorem dm_SzMl {l : Ml} {k : Int} (h : ok_SzMl (l, k)) : dom ok_SzMl ea_SzMl [(0, true, [C.tr false (T.int IntKind.i64 l.c.chunks), C.tr false (T.int IntKind.i64 l.c.size), C.tr false (T.int IntKind.i64 l.c.slots), C.tr false (T.int IntKind.i64 l.c.tax), C.tr false (T.int IntKind.i64 l.c.slice), C.tr false (T.int IntKind.i64 l.c.gens), C.tr false (T.arr 11 l.rooms.length (atL Rm.cs l.rooms)), C.tr false (T.arr 1 l.log.length (atL rowI l.log))]), (0, false, [C.tr false (T.int IntKind.i64 k)])] = true := dom_ea (ea := ea_SzMl) (x := (l, k)) h
theorem iv_SzMl {l : Ml} {k : Int} (h : ok_SzMl (l, k)) : inv ok_SzMl ea_SzMl [(0, true, [C.tr false (T.int IntKind.i64 l.c.chunks), C.tr false (T.int IntKind.i64 l.c.size), C.tr false (T.int IntKind.i64 l.c.slots), C.tr false (T.int IntKind.i64 l.c.tax), C.tr false (T.int IntKind.i64 l.c.slice), C.tr false (T.int IntKind.i64 l.c.gens), C.tr false (T.arr 11 l.rooms.length (atL Rm.cs l.rooms)), C.tr false (T.arr 1 l.log.length (atL rowI l.log))]), (0, false, [C.tr false (T.int IntKind.i64 k)])] = (l, k) := inv_ea ea_SzMl_inj (x := (l, k)) h
def i_SzMl : Nat := 20
noncomputable abbrev F_SzMl : Func := f20
def kp_SzMl : List (Nat × List Nat) := [(0, [4, 8, 9]), (1, [4, 8, 9]), (2, [4, 8, 9, 40]), (3, [16]), (4, [4]), (5, [4, 64]), (6, [16]), (7, [16])]
theorem pre_SzMl (l : Ml) (k : Int) (n : Nat) : body prog (tabS [(i_szRmS, e_szRmS), (i_szLI, e_szLI)]) kp_SzMl n F_SzMl [aR l.cs, aI k] = (
 gd (dom okzz_RmS eaz_RmS [(0, false, [C.tr false (eL 11 Rm.cs l.2)]), (0, false, [C.tr false (T.int IntKind.i64 k)])]) <|
 bif decide
  (f_szRmS
      (inv okzz_RmS eaz_RmS
        [(0, false, [C.tr false (eL 11 Rm.cs l.2)]), (0, false, [C.tr false (T.int IntKind.i64 k)])]) <
    0) then
  some ([(false, [.tr true (T.int IntKind.i64 (-1))])], [(false, []), (false, [])])
 else
 bif decide
  (IntKind.i64.wrap
      (f_szRmS
          (inv okzz_RmS eaz_RmS
            [(0, false, [C.tr false (eL 11 Rm.cs l.2)]), (0, false, [C.tr false (T.int IntKind.i64 k)])]) -
        (↑l.3.length : Int)) <
    0) then
  some ([(false, [.tr true (T.int IntKind.i64 (-1))])], [(false, []), (false, [])])
 else
 bif decide
  (IntKind.i64.wrap
      (f_szRmS
          (inv okzz_RmS eaz_RmS
            [(0, false, [C.tr false (eL 11 Rm.cs l.2)]), (0, false, [C.tr false (T.int IntKind.i64 k)])]) -
        (↑l.3.length : Int)) <
    0) then
  some ([(false, [.tr true (T.int IntKind.i64 (-1))])], [(false, []), (false, [])])
 else
 some ([(false, [.tr true (T.int IntKind.i64
  (IntKind.i64.wrap
    (f_szRmS
        (inv okzz_RmS eaz_RmS
          [(0, false, [C.tr false (eL 11 Rm.cs l.2)]), (0, false, [C.tr false (T.int IntKind.i64 k)])]) -
      (↑l.3.length : Int))))])], [(false, []), (false, [])])) := by kernel_rfl
theorem body_SzMl (l : Ml) (k : Int) (n : Nat) (h : ok_SzMl (l, k)) : body prog (tabS [(i_szRmS, e_szRmS), (i_szLI, e_szLI)]) kp_SzMl n F_SzMl (ea_SzMl (l, k)) = some (erI 2 (f_SzMl (l, k))) := by
  have hzm := zm
  have hlm := lm
  obtain ⟨hz, hk0, hk1⟩ := h
  dsimp only at hz hk0 hk1
  have z0 : okz_RmS l.rooms := hz.1
  have z1 : okz_LI l.log := hz.2
  have hn : n_Ml l = n_RmS l.rooms + l.log.length := rfl
  unfold ea_SzMl f_SzMl
  dsimp only
  rw [pre_SzMl]
  have y0 : okzz_RmS (l.rooms, k) := ⟨z0, by dsimp only; omega, by dsimp only; omega⟩
  simp only [lt_d, ge0_d, Int.toNat_natCast, blt_d, ble_self, beq_self, decide_true, cond_true, Bool.and_self, Bool.and_true, Bool.true_and, gd_true, Nat.zero_add, List.getD_cons_zero, List.getD_cons_succ, isI_int, toI_int, isB_bool, toB_bool, eL_T, arr_ln, arr_fn, arr_wd, arr_is, arr_get, Ml.cs, dm_szRmS y0, iv_szRmS y0]
  by_cases e0 : (n_RmS l.rooms : Int) ≤ k
  case neg =>
    simp only [n_szRmS e0]
    rw [if_neg (by omega)]
    simp only [decide_eq_true (show (-1 : Int) < 0 by omega), cond_true]
    rfl
  simp only [y_szRmS e0]
  simp (disch := omega) only [decide_eq_false (show ¬ k - (n_RmS l.rooms : Int) < 0 by omega), cond_false, wrapI]
  have y1 : l.log.length ≤ ZM := z1
  try simp (disch := omega) only [wrapI]
  by_cases e1 : k - (n_RmS l.rooms : Int) - (l.log.length : Int) < 0
  · rw [if_neg (by omega)]
    simp only [decide_eq_true e1, cond_true]
    rfl
  simp (disch := omega) only [decide_eq_false e1, cond_false, wrapI]
  rw [if_pos (by omega), show k - (n_Ml l : Int) = k - (n_RmS l.rooms : Int) - (l.log.length : Int) by omega]
  rfl
theorem s_SzMl : EntOk prog i_SzMl e_SzMl := ent_ok ea_SzMl_inj fun x hx =>
  body_sound (φ := (tabS [(i_szRmS, e_szRmS), (i_szLI, e_szLI)])) (tabS_cons s_szRmS (tabS_cons s_szLI tabS_nil)) mixed (kp := kp_SzMl) (n := 0) func20 (c := bodyOf F_SzMl) (by kernel_rfl) (body_SzMl x.1 x.2 (0) hx) (name_ok (by kernel_rfl))
theorem y_SzMl {l : Ml} {k : Int} (h : (n_Ml l : Int) ≤ k) : f_SzMl (l, k) = k - n_Ml l := if_pos h
theorem n_SzMl {l : Ml} {k : Int} (h : ¬ (n_Ml l : Int) ≤ k) : f_SzMl (l, k) = -1 := if_neg h
theorem okn_Ml {l : Ml} (h : (n_Ml l : Int) ≤ 1048576) : ok_ToMl l ∧ okq_Ml l := ⟨⟨(okn_RmS (l := l.rooms) (by have : n_Ml l = n_RmS l.rooms + n_LI l.log := rfl; omega)).1, (okn_LI (l := l.log) (by have : n_Ml l = n_RmS l.rooms + n_LI l.log := rfl; omega)).1⟩, ⟨(okn_RmS (l := l.rooms) (by have : n_Ml l = n_RmS l.rooms + n_LI l.log := rfl; omega)).2, (okn_LI (l := l.log) (by have : n_Ml l = n_RmS l.rooms + n_LI l.log := rfl; omega)).2⟩⟩
end Go.Mach.F
namespace Go.Mach.F
open Go Go.Mach Go.Proofs.Try
--=set_option maxRecDepth 100000
def i_mkMl : Nat := 27
noncomputable abbrev F_mkMl : Func := f27
def kp_mkMl : List (Nat × List Nat) := [(0, [4, 8, 9, 2]), (1, [4, 8, 9, 2]), (2, [4, 2]), (3, [16, 2])]
noncomputable def e_mkMl : Ent := inl [1, 0] prog (tabS [(i_mkRmS, e_mkRmS), (i_mkLI, e_mkLI)]) kp_mkMl 0 F_mkMl
theorem s_mkMl : EntOk prog i_mkMl e_mkMl := inl_ok (tabS_cons s_mkRmS (tabS_cons s_mkLI tabS_nil)) mixed (c := bodyOf F_mkMl) func27 (by kernel_rfl) (name_ok (by kernel_rfl))
end Go.Mach.F
namespace Go.Mach.F
open Go Go.Mach Go.Proofs.Try
theorem cntL_set {α : Type} (c : α → Nat) : ∀ {l : List α} {j : Nat} {x y : α}, l[j]? = some x → cntL c (l.set j y) + c x = cntL c l + c y
  | [], _, _, _, h => by simp at h
  | z :: l, 0, x, y, h => by
    simp at h
    subst h
    simp only [List.set_cons_zero, cntL]
    omega
  | z :: l, j + 1, x, y, h => by
    have := cntL_set c (l := l) (j := j) (x := x) (y := y) (by simpa using h)
    simp only [List.set_cons_succ, cntL]
    omega
theorem rooms_set {l : List Rm} {j : Nat} {x y : Rm} (hq : okq_RmS l) (hx : l[j]? = some x) (hy : okq_HdS y.kids ∧ okq_SfS y.things ∧ okq_LI y.tags) (d : Nat) (hn : n1_RmS y ≤ n1_RmS x + d) : okq_RmS (l.set j y) ∧ n_RmS (l.set j y) ≤ n_RmS l + d := by
  refine ⟨⟨by rw [List.length_set]; exact hq.1, fun z hz => ?_⟩, ?_⟩
  · rcases List.mem_or_eq_of_mem_set hz with h | rfl
    · exact hq.2 _ h
    · exact hy
  · have := cntL_set n1_RmS (y := y) hx
    unfold n_RmS
    rw [List.length_set]
    omega
end Go.Mach.F
namespace Go.Mach.F
open Go Go.Mach Go.Proofs.Try
theorem cntL_app {α : Type} (c : α → Nat) : ∀ (l l' : List α), cntL c (l ++ l') = cntL c l + cntL c l'
  | [], l' => by simp [cntL]
  | x :: l, l' => by
    have := cntL_app c l l'
    simp only [List.cons_append, cntL]
    omega
theorem thgR_ok {m : Ml} {j : Nat} {x y : Rm} {sz : Int} (hz : 1 ≤ sz ∧ sz ≤ 200) (hq : okq_RmS m.rooms) (hx : m.rooms[j]? = some x) (h12 : ¬ 12 ≤ (x.things.length : Int)) (e1 : y.kids = x.kids) (e2 : y.things = x.things) (e3 : y.tags = x.tags) :
    okq_RmS (m.rooms.set j (thgR y sz)) ∧ n_RmS (m.rooms.set j (thgR y sz)) ≤ n_RmS m.rooms + 201 := by
  have hbm := bm
  have hy := hq.2 _ (List.mem_of_getElem? hx)
  refine rooms_set hq hx ⟨?_, ⟨?_, ?_⟩, ?_⟩ 201 ?_
  · show okq_HdS y.kids
    rw [e1]
    exact hy.1
  · show (y.things ++ [(⟨List.replicate sz.toNat 0⟩ : Sf)]).length ≤ BM
    rw [List.length_append, e2, List.length_singleton]
    omega
  · intro z hz'
    rcases List.mem_append.1 (show z ∈ y.things ++ [(⟨List.replicate sz.toNat 0⟩ : Sf)] from hz') with h | h
    · rw [e2] at h
      exact hy.2.1.2 _ h
    · rw [List.mem_singleton.1 h]
      show (List.replicate sz.toNat (0 : UInt8)).length ≤ BM
      rw [List.length_replicate]
      omega
  · show okq_LI y.tags
    rw [e3]
    exact hy.2.2
  · have hn : n_SfS (y.things ++ [(⟨List.replicate sz.toNat 0⟩ : Sf)]) = n_SfS x.things + (1 + sz.toNat) := by
      unfold n_SfS
      rw [List.length_append, cntL_app, e2]
      have : cntL n1_SfS [(⟨List.replicate sz.toNat 0⟩ : Sf)] = sz.toNat := by
        show (List.replicate sz.toNat (0 : UInt8)).length + 0 = _
        rw [List.length_replicate]
        rfl
      rw [this, List.length_singleton]
      omega
    show n_HdS y.kids + n_SfS (y.things ++ [(⟨List.replicate sz.toNat 0⟩ : Sf)]) + n_LI y.tags ≤ n_HdS x.kids + n_SfS x.things + n_LI x.tags + 201
    rw [hn, e1, e3]
    omega
theorem alcM_ok {m : Ml} {h : Hd} {sz al : Int} {fr : Bool} (hq : okq_RmS m.rooms) (hl : okq_LI m.log) : (okq_RmS (alcM m h sz al fr).1.rooms ∧ okq_LI (alcM m h sz al fr).1.log) ∧ n_RmS (alcM m h sz al fr).1.rooms ≤ n_RmS m.rooms + 201 ∧ (alcM m h sz al fr).1.log = m.log := by
  have triv : (okq_RmS m.rooms ∧ okq_LI m.log) ∧ n_RmS m.rooms ≤ n_RmS m.rooms + 201 ∧ m.log = m.log := ⟨⟨hq, hl⟩, Nat.le_add_right _ _, rfl⟩
  unfold alcM
  cases hsz : szOk sz al with
  | false => exact triv
  | true =>
    have hz := (szOk_of hsz).1
    by_cases e : (rsv m h).2 = 0
    case neg => simp only [e, decide_false, cond_true, cond_false, and_true]; exact ⟨triv.1, triv.2.1⟩
    have hk := rsv_ok e
    have hx := getD_get hk.2
    simp only [e, decide_true, cond_true]
    unfold alcR rmJ
    obtain ⟨x, hxe⟩ : ∃ x, x = m.rooms.getD (rsv m h).1.toNat zRm := ⟨_, rfl⟩
    rw [← hxe] at hx ⊢
    by_cases a3 : 12 ≤ (x.things.length : Int)
    · simp only [a3, decide_true, cond_true, and_true]; exact ⟨triv.1, triv.2.1⟩
    simp only [a3, decide_false, cond_false]
    by_cases a4 : m.c.size < sz
    · simp only [a4, decide_true, cond_true]
      cases decide (m.c.chunks < IntKind.i64.wrap (tkn m.rooms + cdv sz m.c.size)) with
      | true => exact triv
      | false => cases fr with
        | true => exact triv
        | false =>
          have := thgR_ok (m := m) (y := bigR x (cdv sz m.c.size)) hz hq hx a3 rfl rfl rfl
          exact ⟨⟨this.1, hl⟩, this.2, rfl⟩
    · simp only [a4, decide_false, cond_false]
      generalize needC m x sz al = N
      cases (N && decide (m.c.chunks < IntKind.i64.wrap (tkn m.rooms + 1))) with
      | true => exact triv
      | false =>
        have := thgR_ok (m := m) (y := smlR x N sz al) hz hq hx a3 (by cases N <;> rfl) (by cases N <;> rfl) (by cases N <;> rfl)
        exact ⟨⟨this.1, hl⟩, this.2, rfl⟩
end Go.Mach.F
namespace Go.Mach.F
open Go Go.Mach Go.Proofs.Try
--=set_option maxRecDepth 100000
def ok_hdMl (x : Ml × Int) : Prop := okh_RmS (x.1.rooms, x.2) ∧ okh_LI (x.1.log, x.2 + cntL c1_RmS x.1.rooms)
def ea_hdMl (x : Ml × Int) : List Arg := [aR x.1.cs, aI x.2]
def f_hdMl (x : Ml × Int) : Int := (if x.1.rooms = mk_RmS x.1.rooms (x.2) then (if x.1.log = mk_LI x.1.log (x.2 + cntL c1_RmS x.1.rooms) then x.2 + cntL c1_RmS x.1.rooms + cntL c1_LI x.1.log else -1) else -1)
noncomputable def e_hdMl : Ent := ent [] ok_hdMl ea_hdMl (erI 2) f_hdMl
theorem ea_hdMl_inj (x y : Ml × Int) (h : ea_hdMl x = ea_hdMl y) : x = y := by
  obtain ⟨l1, k1⟩ := x
  obtain ⟨l2, k2⟩ := y
  simp only [ea_hdMl, List.cons.injEq, and_true, true_and] at h
  obtain ⟨e0, e1⟩ := h
  obtain rfl := Ml.cs_ext (aR_inj e0)
  obtain rfl := aI_inj e1
  rfl
theorem dm_hdMl {l : Ml} {k : Int} (h : ok_hdMl (l, k)) : dom ok_hdMl ea_hdMl [(0, true, [C.tr false (T.int IntKind.i64 l.c.chunks), C.tr false (T.int IntKind.i64 l.c.size), C.tr false (T.int IntKind.i64 l.c.slots), C.tr false (T.int IntKind.i64 l.c.tax), C.tr false (T.int IntKind.i64 l.c.slice), C.tr false (T.int IntKind.i64 l.c.gens), C.tr false (T.arr 11 l.rooms.length (atL Rm.cs l.rooms)), C.tr false (T.arr 1 l.log.length (atL rowI l.log))]), (0, false, [C.tr false (T.int IntKind.i64 k)])] = true := dom_ea (ea := ea_hdMl) (x := (l, k)) h
theorem iv_hdMl {l : Ml} {k : Int} (h : ok_hdMl (l, k)) : inv ok_hdMl ea_hdMl [(0, true, [C.tr false (T.int IntKind.i64 l.c.chunks), C.tr false (T.int IntKind.i64 l.c.size), C.tr false (T.int IntKind.i64 l.c.slots), C.tr false (T.int IntKind.i64 l.c.tax), C.tr false (T.int IntKind.i64 l.c.slice), C.tr false (T.int IntKind.i64 l.c.gens), C.tr false (T.arr 11 l.rooms.length (atL Rm.cs l.rooms)), C.tr false (T.arr 1 l.log.length (atL rowI l.log))]), (0, false, [C.tr false (T.int IntKind.i64 k)])] = (l, k) := inv_ea ea_hdMl_inj (x := (l, k)) h
def i_hdMl : Nat := 52
noncomputable abbrev F_hdMl : Func := f52
def kp_hdMl : List (Nat × List Nat) := [(0, [4, 8, 9]), (1, [4, 8, 9]), (2, [4, 8, 9, 40]), (3, [16]), (4, [4]), (5, [4, 64]), (6, [16]), (7, [16])]
theorem pre_hdMl (l : Ml) (k : Int) (n : Nat) : body prog (tabS [(i_hdRmS, e_hdRmS), (i_hdLI, e_hdLI)]) kp_hdMl n F_hdMl [aR l.cs, aI k] = (
 entK okh_RmS eah_RmS (f_hdRmS) [(0, false, [C.tr false (eL 11 Rm.cs l.2)]), (0, false, [C.tr false (T.int IntKind.i64 k)])] fun (r1 : Int) =>
 bif decide (r1 < 0) then
  some ([(false, [.tr true (T.int IntKind.i64 (-1))])], [(false, []), (false, [])])
 else
 entK okh_LI eah_LI (f_hdLI) [(0, false, [C.tr false (eL 1 rowI l.3)]), (0, false, [C.tr false (T.int IntKind.i64 r1)])] fun (r2 : Int) =>
 bif decide (r2 < 0) then
  some ([(false, [.tr true (T.int IntKind.i64 (-1))])], [(false, []), (false, [])])
 else
 some ([(false, [.tr true (T.int IntKind.i64 r2)])], [(false, []), (false, [])])) := by kernel_rfl
theorem body_hdMl (l : Ml) (k : Int) (n : Nat) (h : ok_hdMl (l, k)) : body prog (tabS [(i_hdRmS, e_hdRmS), (i_hdLI, e_hdLI)]) kp_hdMl n F_hdMl (ea_hdMl (l, k)) = some (erI 2 (f_hdMl (l, k))) := by
  have hbm := bm
  have y0 : okh_RmS (l.rooms, k) := h.1
  have z0 := y0.2.1
  have w0 := y0.2.2
  dsimp only at z0 w0
  have y1 : okh_LI (l.log, k + cntL c1_RmS l.rooms) := h.2
  have z1 := y1.2.1
  have w1 := y1.2.2
  dsimp only at z1 w1
  unfold ea_hdMl f_hdMl
  try dsimp only
  rw [pre_hdMl]
  simp only [lt_d, ge0_d, Int.toNat_natCast, blt_d, ble_self, beq_self, decide_true, cond_true, Bool.and_self, Bool.and_true, Bool.true_and, gd_true, Nat.zero_add, List.getD_cons_zero, List.getD_cons_succ, isI_int, toI_int, isB_bool, toB_bool, eL_T, arr_ln, arr_fn, arr_wd, arr_is, arr_get, eL_T, Ml.cs]
  rw [entK_of (dm_hdRmS y0) (iv_hdRmS y0)]
  by_cases e0 : l.rooms = mk_RmS l.rooms (k)
  case neg =>
    simp only [n_hdRmS e0, if_neg e0, decide_eq_true (show (-1 : Int) < 0 by omega), cond_true]
    rfl
  rw [y_hdRmS e0, if_pos e0]
  simp only [lt_d, ge0_d, Int.toNat_natCast, blt_d, ble_self, beq_self, decide_true, cond_true, Bool.and_self, Bool.and_true, Bool.true_and, gd_true, Nat.zero_add, List.getD_cons_zero, List.getD_cons_succ, isI_int, toI_int, isB_bool, toB_bool, eL_T, arr_ln, arr_fn, arr_wd, arr_is, arr_get, decide_eq_false (show ¬ k + (cntL c1_RmS l.rooms : Int) < 0 by omega), cond_false]
  rw [entK_of (dm_hdLI y1) (iv_hdLI y1)]
  by_cases e1 : l.log = mk_LI l.log (k + cntL c1_RmS l.rooms)
  case neg =>
    simp only [n_hdLI e1, if_neg e1, decide_eq_true (show (-1 : Int) < 0 by omega), cond_true]
    rfl
  rw [y_hdLI e1, if_pos e1]
  simp only [lt_d, ge0_d, Int.toNat_natCast, blt_d, ble_self, beq_self, decide_true, cond_true, Bool.and_self, Bool.and_true, Bool.true_and, gd_true, Nat.zero_add, List.getD_cons_zero, List.getD_cons_succ, isI_int, toI_int, isB_bool, toB_bool, eL_T, arr_ln, arr_fn, arr_wd, arr_is, arr_get, decide_eq_false (show ¬ k + cntL c1_RmS l.rooms + (cntL c1_LI l.log : Int) < 0 by omega), cond_false]
  try rfl
theorem s_hdMl : EntOk prog i_hdMl e_hdMl := ent_ok ea_hdMl_inj fun x hx =>
  body_sound (φ := (tabS [(i_hdRmS, e_hdRmS), (i_hdLI, e_hdLI)])) (tabS_cons s_hdRmS (tabS_cons s_hdLI tabS_nil)) mixed (kp := kp_hdMl) (n := 0) func52 (c := bodyOf F_hdMl) (by kernel_rfl) (body_hdMl x.1 x.2 (0) hx) (name_ok (by kernel_rfl))
end Go.Mach.F
