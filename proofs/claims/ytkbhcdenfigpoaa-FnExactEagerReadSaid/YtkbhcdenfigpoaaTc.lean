/- GetAt: equations. Conditions: none. -/
import Derived.Test.YtkbhcdenfigpoaaTb
set_option linter.all false
namespace Go.Mach.F
open Go Go.Mach Go.Proofs.Try
--=set_option maxRecDepth 100000
def gat (l : List UInt8) (k c : Int) : List UInt8 × Bool := bif ((decide (0 ≤ c) && decide (c ≤ (l.length : Int))) && (decide (0 ≤ k) && decide (k ≤ (l.length : Int) - c))) then ((l.drop k.toNat).take c.toNat, true) else ([], false)
def ok_iGetAt (x : List UInt8 × Int × Int) : Prop := x.1.length ≤ LM
def ea_iGetAt (x : List UInt8 × Int × Int) : List Arg := [aT (eB x.1), aI x.2.1, aI x.2.2]
def f_iGetAt (x : List UInt8 × Int × Int) : List UInt8 × Bool := gat x.1 x.2.1 x.2.2
noncomputable def e_iGetAt : Ent := ent [] ok_iGetAt ea_iGetAt (fun (x : List UInt8 × Bool) => ([oT (eB x.1), oT (.bool x.2)], [nul, nul, nul])) f_iGetAt
theorem ea_iGetAt_inj (x y : List UInt8 × Int × Int) (h : ea_iGetAt x = ea_iGetAt y) : x = y := by
  obtain ⟨l1, k1, c1⟩ := x
  obtain ⟨l2, k2, c2⟩ := y
  simp only [ea_iGetAt, List.cons.injEq, and_true, true_and] at h
  obtain ⟨e0, e1, e2⟩ := h
  obtain rfl := eB_inj (aT_inj e0)
  obtain rfl := aI_inj e1
  obtain rfl := aI_inj e2
  rfl
theorem dm_iGetAt {l : List UInt8} {k : Int} {c : Int} (h : ok_iGetAt (l, k, c)) : dom ok_iGetAt ea_iGetAt [(0, false, [C.tr false (T.arr 1 l.length (atL rowB l))]), (0, false, [C.tr false (T.int IntKind.i64 k)]), (0, false, [C.tr false (T.int IntKind.i64 c)])] = true := dom_ea (ea := ea_iGetAt) (x := (l, k, c)) h
theorem iv_iGetAt {l : List UInt8} {k : Int} {c : Int} (h : ok_iGetAt (l, k, c)) : inv ok_iGetAt ea_iGetAt [(0, false, [C.tr false (T.arr 1 l.length (atL rowB l))]), (0, false, [C.tr false (T.int IntKind.i64 k)]), (0, false, [C.tr false (T.int IntKind.i64 c)])] = (l, k, c) := inv_ea ea_iGetAt_inj (x := (l, k, c)) h
theorem d_iGetAt (l : List UInt8) (k : Int) (c : Int) : f_iGetAt (l, k, c) = gat l k c := rfl
def i_iGetAt : Nat := 78
noncomputable abbrev F_iGetAt : Func := f78
def kp_iGetAt : List (Nat × List Nat) := [(0, [0, 4, 8]), (1, [0, 4, 8, 52]), (2, [24, 28]), (3, [24, 28])]
def ts_iGetAt : List Nat := [0, 0, 0]
theorem pre_iGetAt (l : List UInt8) (k : Int) (c : Int) (n : Nat) : body prog (tabS [(i_ihas, e_ihas), (i_clB, e_clB)]) kp_iGetAt n F_iGetAt [aT (eB l), aI k, aI c] = (
 bif decide (0 ≤ c) then
  bif decide (c ≤ (↑l.length : Int)) then
   bif decide (0 ≤ k) then
    bif !decide (k ≤ IntKind.i64.wrap ((↑l.length : Int) - c)) then
     some ([(false, [.tr true (.arr (1) (0) (fun x x_1 => T.hole))]), (false, [.tr true (T.bool false)])], [(false, []), (false, []), (false, [])])
    else
    gd (decide (0 ≤ k) &&
  (decide (k ≤ IntKind.i64.wrap (k + c)) && decide (IntKind.i64.wrap (k + c) ≤ (↑l.length : Int)))) <|
    entK ok_clB ea_clB (f_clB) [(0, false,
    [C.tr false
        (T.arr 1 ((IntKind.i64.wrap (k + c)).toNat - k.toNat)
          (cutT k.toNat ((IntKind.i64.wrap (k + c)).toNat - k.toNat) (atL rowB l)))])] fun (r1 : List UInt8) =>
    gd (r1.length.ble r1.length && true) <|
    gd (r1.length.ble r1.length && true) <|
    some ([(false, [.tr true (.arr (1) (r1.length) (atL rowB r1))]), (false, [.tr true (T.bool true)])], [(false, []), (false, []), (false, [])])
   else
   some ([(false, [.tr true (.arr (1) (0) (fun x x_1 => T.hole))]), (false, [.tr true (T.bool false)])], [(false, []), (false, []), (false, [])])
  else
  some ([(false, [.tr true (.arr (1) (0) (fun x x_1 => T.hole))]), (false, [.tr true (T.bool false)])], [(false, []), (false, []), (false, [])])
 else
 some ([(false, [.tr true (.arr (1) (0) (fun x x_1 => T.hole))]), (false, [.tr true (T.bool false)])], [(false, []), (false, []), (false, [])])) := by kernel_rfl
def ok_sGetAt (x : List UInt8 × Int × Int) : Prop := x.1.length ≤ LM
def ea_sGetAt (x : List UInt8 × Int × Int) : List Arg := [aT (eB x.1), aI x.2.1, aI x.2.2]
def f_sGetAt (x : List UInt8 × Int × Int) : List UInt8 × Bool := gat x.1 x.2.1 x.2.2
noncomputable def e_sGetAt : Ent := ent [] ok_sGetAt ea_sGetAt (fun (x : List UInt8 × Bool) => ([oT (eB x.1), oT (.bool x.2)], [nul, nul, nul])) f_sGetAt
theorem ea_sGetAt_inj (x y : List UInt8 × Int × Int) (h : ea_sGetAt x = ea_sGetAt y) : x = y := by
  obtain ⟨l1, k1, c1⟩ := x
  obtain ⟨l2, k2, c2⟩ := y
  simp only [ea_sGetAt, List.cons.injEq, and_true, true_and] at h
  obtain ⟨e0, e1, e2⟩ := h
  obtain rfl := eB_inj (aT_inj e0)
  obtain rfl := aI_inj e1
  obtain rfl := aI_inj e2
  rfl
theorem dm_sGetAt {l : List UInt8} {k : Int} {c : Int} (h : ok_sGetAt (l, k, c)) : dom ok_sGetAt ea_sGetAt [(0, false, [C.tr false (T.arr 1 l.length (atL rowB l))]), (0, false, [C.tr false (T.int IntKind.i64 k)]), (0, false, [C.tr false (T.int IntKind.i64 c)])] = true := dom_ea (ea := ea_sGetAt) (x := (l, k, c)) h
theorem iv_sGetAt {l : List UInt8} {k : Int} {c : Int} (h : ok_sGetAt (l, k, c)) : inv ok_sGetAt ea_sGetAt [(0, false, [C.tr false (T.arr 1 l.length (atL rowB l))]), (0, false, [C.tr false (T.int IntKind.i64 k)]), (0, false, [C.tr false (T.int IntKind.i64 c)])] = (l, k, c) := inv_ea ea_sGetAt_inj (x := (l, k, c)) h
theorem d_sGetAt (l : List UInt8) (k : Int) (c : Int) : f_sGetAt (l, k, c) = gat l k c := rfl
def i_sGetAt : Nat := 75
noncomputable abbrev F_sGetAt : Func := f75
def kp_sGetAt : List (Nat × List Nat) := [(0, [0, 4, 8]), (1, [0, 4, 8, 48]), (2, [24, 28]), (3, [24, 28])]
def ts_sGetAt : List Nat := [0, 0, 0]
theorem pre_sGetAt (l : List UInt8) (k : Int) (c : Int) (n : Nat) : body prog (tabS [(i_l2There, e_l2There)]) kp_sGetAt n F_sGetAt [aT (eB l), aI k, aI c] = (
 bif decide (0 ≤ k) then
  bif decide (0 ≤ c) then
   bif decide (k ≤ (↑l.length : Int)) then
    bif !decide (c ≤ IntKind.i64.wrap ((↑l.length : Int) - k)) then
     some ([(false, [.tr true (.arr (1) (0) (rowsT []))]), (false, [.tr true (T.bool false)])], [(false, []), (false, []), (false, [])])
    else
    gd (decide (0 ≤ k) &&
  (decide (k ≤ IntKind.i64.wrap (k + c)) && decide (IntKind.i64.wrap (k + c) ≤ (↑l.length : Int)))) <|
    gd (((0 + ((IntKind.i64.wrap (k + c)).toNat - k.toNat)) * 1).ble 70368744177664 &&
  (0 + ((IntKind.i64.wrap (k + c)).toNat - k.toNat)).ble 70368744177664) <|
    gd ((0 + ((IntKind.i64.wrap (k + c)).toNat - k.toNat)).ble (0 + ((IntKind.i64.wrap (k + c)).toNat - k.toNat)) && true) <|
    gd ((0 + ((IntKind.i64.wrap (k + c)).toNat - k.toNat)).ble (0 + ((IntKind.i64.wrap (k + c)).toNat - k.toNat)) && true) <|
    some ([(false, [.tr true (.arr (1) (0 + ((IntKind.i64.wrap (k + c)).toNat - k.toNat)) (appF 0 (rowsT []) (plainF (cutT k.toNat ((IntKind.i64.wrap (k + c)).toNat - k.toNat) (atL rowB l)))))]), (false, [.tr true (T.bool true)])], [(false, []), (false, []), (false, [])])
   else
   some ([(false, [.tr true (.arr (1) (0) (rowsT []))]), (false, [.tr true (T.bool false)])], [(false, []), (false, []), (false, [])])
  else
  some ([(false, [.tr true (.arr (1) (0) (rowsT []))]), (false, [.tr true (T.bool false)])], [(false, []), (false, []), (false, [])])
 else
 some ([(false, [.tr true (.arr (1) (0) (rowsT []))]), (false, [.tr true (T.bool false)])], [(false, []), (false, []), (false, [])])) := by kernel_rfl
end Go.Mach.F