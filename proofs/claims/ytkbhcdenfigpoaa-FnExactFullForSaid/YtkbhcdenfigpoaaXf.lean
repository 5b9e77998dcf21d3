/- Index, l7Has: equations. Conditions: none. -/
import Derived.Test.YtkbhcdenfigpoaaXe
set_option linter.all false
namespace Go.Mach.F
open Go Go.Mach Go.Proofs.Try
--=set_option maxRecDepth 100000
def has (l : List Int) (k : Int) : Bool := decide (k ∈ l)
def idx (l : List Int) (k : Int) : Int := match (List.range l.length).find? (fun i => decide (k = ri l i)) with | some i => (i : Int) | none => -1
def ok_Index (x : List Int × Int) : Prop := x.1.length ≤ LM
def ea_Index (x : List Int × Int) : List Arg := [aT (eI x.1), aI x.2]
def f_Index (x : List Int × Int) : Int := idx x.1 x.2
noncomputable def e_Index : Ent := ent [] ok_Index ea_Index (erI 2) f_Index
theorem ea_Index_inj (x y : List Int × Int) (h : ea_Index x = ea_Index y) : x = y := by
  obtain ⟨l1, k1⟩ := x
  obtain ⟨l2, k2⟩ := y
  simp only [ea_Index, List.cons.injEq, and_true, true_and] at h
  obtain ⟨e0, e1⟩ := h
  obtain rfl := eI_inj (aT_inj e0)
  obtain rfl := aI_inj e1
  rfl
theorem dm_Index {l : List Int} {k : Int} (h : ok_Index (l, k)) : dom ok_Index ea_Index [(0, false, [C.tr false (T.arr 1 l.length (atL rowI l))]), (0, false, [C.tr false (T.int IntKind.i64 k)])] = true := dom_ea (ea := ea_Index) (x := (l, k)) h
theorem iv_Index {l : List Int} {k : Int} (h : ok_Index (l, k)) : inv ok_Index ea_Index [(0, false, [C.tr false (T.arr 1 l.length (atL rowI l))]), (0, false, [C.tr false (T.int IntKind.i64 k)])] = (l, k) := inv_ea ea_Index_inj (x := (l, k)) h
theorem d_Index (l : List Int) (k : Int) : f_Index (l, k) = idx l k := rfl
def i_Index : Nat := 150
noncomputable abbrev F_Index : Func := f150
def kp_Index : List (Nat × List Nat) := [(0, [0, 4]), (1, [0, 4, 28, 32]), (2, [0, 4, 28, 32, 36]), (3, [0, 4, 20, 28, 32]), (4, [0, 4, 20, 28, 32, 64]), (5, [16]), (6, [0, 4, 28, 32]), (7, [16])]
def ts_Index : List Nat := [0, 0]
def st_Index_1 (l : List Int) (k : Int) (x32 : Int) : St := [(0, ⟨z0, [(false, [.tr false (.arr (1) (l.length) (atL rowI l))])]⟩), (4, ⟨z0, [(false, [.tr true (T.int IntKind.i64 k)])]⟩), (28, ⟨z0, [(false, [.tr true (T.int IntKind.i64 (↑l.length : Int))])]⟩), (32, ⟨z0, [(false, [.tr true (T.int IntKind.i64 x32)])]⟩)]
def ex_Index_1_1 (l : List Int) (k : Int) (x32 : Int) : St := [(16, ⟨z0, [(false, [.tr true (T.int IntKind.i64 x32)])]⟩)]
def ex_Index_1_2 (l : List Int) (k : Int) (x32 : Int) : St := [(0, ⟨z0, [(false, [.tr false (.arr (1) (l.length) (atL rowI l))])]⟩), (4, ⟨z0, [(false, [.tr true (T.int IntKind.i64 k)])]⟩), (28, ⟨z0, [(false, [.tr true (T.int IntKind.i64 (↑l.length : Int))])]⟩), (32, ⟨z0, [(false, [.tr true (T.int IntKind.i64 x32)])]⟩), (36, ⟨z0, []⟩)]
theorem round_Index_1 (l : List Int) (k : Int) (x32 : Int) (n : Nat) (K : Ex → St → Res) : roundAt prog (tabS []) kp_Index F_Index [1, 0, 1, 0] n (st_Index_1 l k x32) K = (
 bif decide (x32 < (↑l.length : Int)) then
  gd (decide (0 ≤ x32) && (x32.toNat.blt l.length && true)) <|
  gd (T.isI IntKind.i64 (atL rowI l x32.toNat 0)) <|
  bif k == (atL rowI l x32.toNat 0).toI then
   K .ret (ex_Index_1_1 l k x32)
  else
  K .normal (st_Index_1 l k (IntKind.i64.wrap (x32 + 1)))
 else
 K (.exit 0) (ex_Index_1_2 l k x32)) := by kernel_rfl
theorem post_Index_1_1 (l : List Int) (k : Int) (x32 : Int) (n : Nat) : contAt prog (tabS []) kp_Index F_Index ts_Index [1, 0, 1, 0] [] n .ret (ex_Index_1_1 l k x32) = (
 some ([(false, [.tr true (T.int IntKind.i64 x32)])], [(false, []), (false, [])])) := by kernel_rfl
theorem post_Index_1_2 (l : List Int) (k : Int) (x32 : Int) (n : Nat) : contAt prog (tabS []) kp_Index F_Index ts_Index [1, 0, 1, 0] [] n (.exit 0) (ex_Index_1_2 l k x32) = (
 some ([(false, [.tr true (T.int IntKind.i64 (-1))])], [(false, []), (false, [])])) := by kernel_rfl
theorem pre_Index (l : List Int) (k : Int) (n : Nat) : body prog (tabS []) kp_Index n F_Index [aT (eI l), aI k] = (
 loopAt prog (tabS []) kp_Index F_Index [1, 0, 1, 0] n n (st_Index_1 l k (0)) (contAt prog (tabS []) kp_Index F_Index ts_Index [1, 0, 1, 0] [] n)) := by kernel_rfl
def ok_l7Has (x : List Int × Int) : Prop := x.1.length ≤ LM
def ea_l7Has (x : List Int × Int) : List Arg := [aT (eI x.1), aI x.2]
def f_l7Has (x : List Int × Int) : Bool := has x.1 x.2
noncomputable def e_l7Has : Ent := ent [] ok_l7Has ea_l7Has (erB 2) f_l7Has
theorem ea_l7Has_inj (x y : List Int × Int) (h : ea_l7Has x = ea_l7Has y) : x = y := by
  obtain ⟨l1, k1⟩ := x
  obtain ⟨l2, k2⟩ := y
  simp only [ea_l7Has, List.cons.injEq, and_true, true_and] at h
  obtain ⟨e0, e1⟩ := h
  obtain rfl := eI_inj (aT_inj e0)
  obtain rfl := aI_inj e1
  rfl
theorem dm_l7Has {l : List Int} {k : Int} (h : ok_l7Has (l, k)) : dom ok_l7Has ea_l7Has [(0, false, [C.tr false (T.arr 1 l.length (atL rowI l))]), (0, false, [C.tr false (T.int IntKind.i64 k)])] = true := dom_ea (ea := ea_l7Has) (x := (l, k)) h
theorem iv_l7Has {l : List Int} {k : Int} (h : ok_l7Has (l, k)) : inv ok_l7Has ea_l7Has [(0, false, [C.tr false (T.arr 1 l.length (atL rowI l))]), (0, false, [C.tr false (T.int IntKind.i64 k)])] = (l, k) := inv_ea ea_l7Has_inj (x := (l, k)) h
theorem d_l7Has (l : List Int) (k : Int) : f_l7Has (l, k) = has l k := rfl
def i_l7Has : Nat := 81
noncomputable abbrev F_l7Has : Func := f81
def kp_l7Has : List (Nat × List Nat) := [(0, [0, 4]), (1, [0, 4, 20]), (2, [0, 4, 20, 36]), (3, [0, 4, 20]), (4, [0, 4, 20, 68]), (5, [16]), (6, [16])]
def ts_l7Has : List Nat := [0, 0]
def st_l7Has_1 (l : List Int) (k : Int) (x20 : Int) : St := [(0, ⟨z0, [(false, [.tr false (.arr (1) (l.length) (atL rowI l))])]⟩), (4, ⟨z0, [(false, [.tr true (T.int IntKind.i64 k)])]⟩), (20, ⟨z0, [(false, [.tr true (T.int IntKind.i64 x20)])]⟩)]
def ex_l7Has_1_1 (l : List Int) (k : Int) (x20 : Int) : St := [(16, ⟨z0, [(false, [.tr true (T.bool true)])]⟩)]
def ex_l7Has_1_2 (l : List Int) (k : Int) (x20 : Int) : St := [(0, ⟨z0, [(false, [.tr false (.arr (1) (l.length) (atL rowI l))])]⟩), (4, ⟨z0, [(false, [.tr true (T.int IntKind.i64 k)])]⟩), (20, ⟨z0, [(false, [.tr true (T.int IntKind.i64 x20)])]⟩), (36, ⟨z0, []⟩)]
theorem round_l7Has_1 (l : List Int) (k : Int) (x20 : Int) (n : Nat) (K : Ex → St → Res) : roundAt prog (tabS []) kp_l7Has F_l7Has [1, 0, 1, 0] n (st_l7Has_1 l k x20) K = (
 bif decide (x20 < (↑l.length : Int)) then
  gd (decide (0 ≤ x20) && (x20.toNat.blt l.length && true)) <|
  gd (T.isI IntKind.i64 (atL rowI l x20.toNat 0)) <|
  bif (atL rowI l x20.toNat 0).toI == k then
   K .ret (ex_l7Has_1_1 l k x20)
  else
  K .normal (st_l7Has_1 l k (IntKind.i64.wrap (x20 + 1)))
 else
 K (.exit 0) (ex_l7Has_1_2 l k x20)) := by kernel_rfl
theorem post_l7Has_1_1 (l : List Int) (k : Int) (x20 : Int) (n : Nat) : contAt prog (tabS []) kp_l7Has F_l7Has ts_l7Has [1, 0, 1, 0] [] n .ret (ex_l7Has_1_1 l k x20) = (
 some ([(false, [.tr true (T.bool true)])], [(false, []), (false, [])])) := by kernel_rfl
theorem post_l7Has_1_2 (l : List Int) (k : Int) (x20 : Int) (n : Nat) : contAt prog (tabS []) kp_l7Has F_l7Has ts_l7Has [1, 0, 1, 0] [] n (.exit 0) (ex_l7Has_1_2 l k x20) = (
 some ([(false, [.tr true (T.bool false)])], [(false, []), (false, [])])) := by kernel_rfl
theorem pre_l7Has (l : List Int) (k : Int) (n : Nat) : body prog (tabS []) kp_l7Has n F_l7Has [aT (eI l), aI k] = (
 loopAt prog (tabS []) kp_l7Has F_l7Has [1, 0, 1, 0] n n (st_l7Has_1 l k (0)) (contAt prog (tabS []) kp_l7Has F_l7Has ts_l7Has [1, 0, 1, 0] [] n)) := by kernel_rfl
end Go.Mach.F