/- SameAns. Conditions: none. -/
import Derived.Test.YtphbidnhhhgmjaaGa
set_option linter.all false
namespace Go.Mach.F
open Go Go.Mach Go.Proofs.Try
--=set_option maxRecDepth 100000
def i_bEq : Nat := 63
noncomputable abbrev F_bEq : Func := f63
def kp_bEq : List (Nat × List Nat) := [(0, [0, 4]), (1, [16])]
noncomputable def e_bEq : Ent := inl [] prog (tabS []) kp_bEq 0 F_bEq
theorem s_bEq : EntOk prog i_bEq e_bEq := inl_ok tabS_nil mixed (c := bodyOf F_bEq) func63 (by kernel_rfl) (name_ok (by kernel_rfl))
def ok_iSameAns (x : An × An) : Prop := True
def ea_iSameAns (x : An × An) : List Arg := [aR x.1.cs, aR x.2.cs]
def f_iSameAns (x : An × An) : Bool := decide (x.1 = x.2)
noncomputable def e_iSameAns : Ent := ent [] ok_iSameAns ea_iSameAns (erB 2) f_iSameAns
theorem ea_iSameAns_inj (x y : An × An) (h : ea_iSameAns x = ea_iSameAns y) : x = y := by
  obtain ⟨a1, b1⟩ := x
  obtain ⟨a2, b2⟩ := y
  simp only [ea_iSameAns, List.cons.injEq, and_true, true_and] at h
  obtain ⟨e0, e1⟩ := h
  obtain rfl := An.cs_ext (aR_inj e0)
  obtain rfl := An.cs_ext (aR_inj e1)
  rfl
theorem dm_iSameAns {a : An} {b : An} (h : ok_iSameAns (a, b)) : dom ok_iSameAns ea_iSameAns [(0, true, [C.tr false (T.int IntKind.i64 a.code), C.tr false (T.int IntKind.i64 a.h.slot), C.tr false (T.int IntKind.i64 a.h.gen), C.tr false (T.int IntKind.i64 a.r.h.slot), C.tr false (T.int IntKind.i64 a.r.h.gen), C.tr false (T.int IntKind.i64 a.r.ep), C.tr false (T.int IntKind.i64 a.r.no), C.tr false (T.arr 1 a.b.length (atL rowB a.b)), C.tr false (T.int IntKind.i64 a.walk), C.tr false (T.int IntKind.i64 a.tax), C.tr false (T.int IntKind.i64 a.drain)]), (0, true, [C.tr false (T.int IntKind.i64 b.code), C.tr false (T.int IntKind.i64 b.h.slot), C.tr false (T.int IntKind.i64 b.h.gen), C.tr false (T.int IntKind.i64 b.r.h.slot), C.tr false (T.int IntKind.i64 b.r.h.gen), C.tr false (T.int IntKind.i64 b.r.ep), C.tr false (T.int IntKind.i64 b.r.no), C.tr false (T.arr 1 b.b.length (atL rowB b.b)), C.tr false (T.int IntKind.i64 b.walk), C.tr false (T.int IntKind.i64 b.tax), C.tr false (T.int IntKind.i64 b.drain)])] = true := dom_ea (ea := ea_iSameAns) (x := (a, b)) h
theorem iv_iSameAns {a : An} {b : An} (h : ok_iSameAns (a, b)) : inv ok_iSameAns ea_iSameAns [(0, true, [C.tr false (T.int IntKind.i64 a.code), C.tr false (T.int IntKind.i64 a.h.slot), C.tr false (T.int IntKind.i64 a.h.gen), C.tr false (T.int IntKind.i64 a.r.h.slot), C.tr false (T.int IntKind.i64 a.r.h.gen), C.tr false (T.int IntKind.i64 a.r.ep), C.tr false (T.int IntKind.i64 a.r.no), C.tr false (T.arr 1 a.b.length (atL rowB a.b)), C.tr false (T.int IntKind.i64 a.walk), C.tr false (T.int IntKind.i64 a.tax), C.tr false (T.int IntKind.i64 a.drain)]), (0, true, [C.tr false (T.int IntKind.i64 b.code), C.tr false (T.int IntKind.i64 b.h.slot), C.tr false (T.int IntKind.i64 b.h.gen), C.tr false (T.int IntKind.i64 b.r.h.slot), C.tr false (T.int IntKind.i64 b.r.h.gen), C.tr false (T.int IntKind.i64 b.r.ep), C.tr false (T.int IntKind.i64 b.r.no), C.tr false (T.arr 1 b.b.length (atL rowB b.b)), C.tr false (T.int IntKind.i64 b.walk), C.tr false (T.int IntKind.i64 b.tax), C.tr false (T.int IntKind.i64 b.drain)])] = (a, b) := inv_ea ea_iSameAns_inj (x := (a, b)) h
theorem d_iSameAns (a : An) (b : An) : f_iSameAns (a, b) = decide (a = b) := rfl
def i_iSameAns : Nat := 18
noncomputable abbrev F_iSameAns : Func := f18
def kp_iSameAns : List (Nat × List Nat) := [(0, [8, 9, 12, 13, 44, 48, 52, 56, 60, 72, 76, 80, 84, 88, 100, 104, 108, 112, 116, 128, 132, 136, 140, 144, 156, 160, 164, 168, 172, 184, 188, 192, 196, 200]), (1, [16])]
def ts_iSameAns : List Nat := [0, 0]
theorem pre_iSameAns (a : An) (b : An) (n : Nat) : body prog (tabS [(i_bEq, e_bEq)]) kp_iSameAns n F_iSameAns [aR a.cs, aR b.cs] = (
 bif a.1 == b.1 then
  bif bif a.h.1 == b.h.1 then bif a.h.2 == b.h.2 then true else false else false then
   bif bif bif a.r.h.1 == b.r.h.1 then bif a.r.h.2 == b.r.h.2 then true else false else false then
  bif a.r.2 == b.r.2 then bif a.r.3 == b.r.3 then true else false else false
else false then
    gd (allU8 a.4.length (atL rowB a.4)) <|
    gd (allU8 b.4.length (atL rowB b.4)) <|
    bif (strOfNums (numsOf a.4.length (atL rowB a.4))).toList == (strOfNums (numsOf b.4.length (atL rowB b.4))).toList then
     bif a.5 == b.5 then
      bif a.6 == b.6 then
       some ([(false, [.tr true (T.bool (a.7 == b.7))])], [(false, []), (false, [])])
      else
      some ([(false, [.tr true (T.bool false)])], [(false, []), (false, [])])
     else
     some ([(false, [.tr true (T.bool false)])], [(false, []), (false, [])])
    else
    some ([(false, [.tr true (T.bool false)])], [(false, []), (false, [])])
   else
   some ([(false, [.tr true (T.bool false)])], [(false, []), (false, [])])
  else
  some ([(false, [.tr true (T.bool false)])], [(false, []), (false, [])])
 else
 some ([(false, [.tr true (T.bool false)])], [(false, []), (false, [])])) := by kernel_rfl
theorem body_iSameAns (a : An) (b : An) (n : Nat) (h : ok_iSameAns (a, b)) : body prog (tabS [(i_bEq, e_bEq)]) kp_iSameAns n F_iSameAns (ea_iSameAns (a, b)) = some (erB 2 (f_iSameAns (a, b))) := by
  unfold ea_iSameAns f_iSameAns
  try dsimp only
  rw [pre_iSameAns]
  simp only [allU8_B, str_B, gd_true, int_eq, bytes_eq, bool_eq, Bool.and_true, cond_tf, cond_bf, dec_and, chainp]
  refine Eq.trans (fin_b fun b => some (erB 2 b)) ?_
  congr 2
  refine decide_eq_decide.2 ?_
  rcases a with ⟨x0, ⟨x1, x2⟩, ⟨⟨x3, x4⟩, x5, x6⟩, x7, x8, x9, x10⟩
  rcases b with ⟨y0, ⟨y1, y2⟩, ⟨⟨y3, y4⟩, y5, y6⟩, y7, y8, y9, y10⟩
  simp [and_assoc]
theorem s_iSameAns : EntOk prog i_iSameAns e_iSameAns := ent_ok ea_iSameAns_inj fun x hx =>
  body_sound (φ := (tabS [(i_bEq, e_bEq)])) (tabS_cons s_bEq tabS_nil) mixed (kp := kp_iSameAns) (n := 0) func18 (c := bodyOf F_iSameAns) (by kernel_rfl) (body_iSameAns x.1 x.2 (0) hx) (name_ok (by kernel_rfl))
def ok_sSameAns (x : An × An) : Prop := True
def ea_sSameAns (x : An × An) : List Arg := [aR x.1.cs, aR x.2.cs]
def f_sSameAns (x : An × An) : Bool := decide (x.1 = x.2)
noncomputable def e_sSameAns : Ent := ent [] ok_sSameAns ea_sSameAns (erB 2) f_sSameAns
theorem ea_sSameAns_inj (x y : An × An) (h : ea_sSameAns x = ea_sSameAns y) : x = y := by
  obtain ⟨a1, b1⟩ := x
  obtain ⟨a2, b2⟩ := y
  simp only [ea_sSameAns, List.cons.injEq, and_true, true_and] at h
  obtain ⟨e0, e1⟩ := h
  obtain rfl := An.cs_ext (aR_inj e0)
  obtain rfl := An.cs_ext (aR_inj e1)
  rfl
theorem dm_sSameAns {a : An} {b : An} (h : ok_sSameAns (a, b)) : dom ok_sSameAns ea_sSameAns [(0, true, [C.tr false (T.int IntKind.i64 a.code), C.tr false (T.int IntKind.i64 a.h.slot), C.tr false (T.int IntKind.i64 a.h.gen), C.tr false (T.int IntKind.i64 a.r.h.slot), C.tr false (T.int IntKind.i64 a.r.h.gen), C.tr false (T.int IntKind.i64 a.r.ep), C.tr false (T.int IntKind.i64 a.r.no), C.tr false (T.arr 1 a.b.length (atL rowB a.b)), C.tr false (T.int IntKind.i64 a.walk), C.tr false (T.int IntKind.i64 a.tax), C.tr false (T.int IntKind.i64 a.drain)]), (0, true, [C.tr false (T.int IntKind.i64 b.code), C.tr false (T.int IntKind.i64 b.h.slot), C.tr false (T.int IntKind.i64 b.h.gen), C.tr false (T.int IntKind.i64 b.r.h.slot), C.tr false (T.int IntKind.i64 b.r.h.gen), C.tr false (T.int IntKind.i64 b.r.ep), C.tr false (T.int IntKind.i64 b.r.no), C.tr false (T.arr 1 b.b.length (atL rowB b.b)), C.tr false (T.int IntKind.i64 b.walk), C.tr false (T.int IntKind.i64 b.tax), C.tr false (T.int IntKind.i64 b.drain)])] = true := dom_ea (ea := ea_sSameAns) (x := (a, b)) h
theorem iv_sSameAns {a : An} {b : An} (h : ok_sSameAns (a, b)) : inv ok_sSameAns ea_sSameAns [(0, true, [C.tr false (T.int IntKind.i64 a.code), C.tr false (T.int IntKind.i64 a.h.slot), C.tr false (T.int IntKind.i64 a.h.gen), C.tr false (T.int IntKind.i64 a.r.h.slot), C.tr false (T.int IntKind.i64 a.r.h.gen), C.tr false (T.int IntKind.i64 a.r.ep), C.tr false (T.int IntKind.i64 a.r.no), C.tr false (T.arr 1 a.b.length (atL rowB a.b)), C.tr false (T.int IntKind.i64 a.walk), C.tr false (T.int IntKind.i64 a.tax), C.tr false (T.int IntKind.i64 a.drain)]), (0, true, [C.tr false (T.int IntKind.i64 b.code), C.tr false (T.int IntKind.i64 b.h.slot), C.tr false (T.int IntKind.i64 b.h.gen), C.tr false (T.int IntKind.i64 b.r.h.slot), C.tr false (T.int IntKind.i64 b.r.h.gen), C.tr false (T.int IntKind.i64 b.r.ep), C.tr false (T.int IntKind.i64 b.r.no), C.tr false (T.arr 1 b.b.length (atL rowB b.b)), C.tr false (T.int IntKind.i64 b.walk), C.tr false (T.int IntKind.i64 b.tax), C.tr false (T.int IntKind.i64 b.drain)])] = (a, b) := inv_ea ea_sSameAns_inj (x := (a, b)) h
theorem d_sSameAns (a : An) (b : An) : f_sSameAns (a, b) = decide (a = b) := rfl
def i_sSameAns : Nat := 16
noncomputable abbrev F_sSameAns : Func := f16
def kp_sSameAns : List (Nat × List Nat) := [(0, [8, 9, 12, 13, 44, 48, 52, 56, 60, 72, 76, 80, 84, 88, 100, 104, 108, 112, 116, 120, 124, 136, 140, 144, 148, 152, 164, 168, 172, 176, 180, 192, 196, 200, 204, 208]), (1, [16])]
def ts_sSameAns : List Nat := [0, 0]
theorem pre_sSameAns (a : An) (b : An) (n : Nat) : body prog (tabS []) kp_sSameAns n F_sSameAns [aR a.cs, aR b.cs] = (
 bif a.1 == b.1 then
  bif bif a.h.1 == b.h.1 then bif a.h.2 == b.h.2 then true else false else false then
   bif bif bif a.r.h.1 == b.r.h.1 then bif a.r.h.2 == b.r.h.2 then true else false else false then
  bif a.r.2 == b.r.2 then bif a.r.3 == b.r.3 then true else false else false
else false then
    gd (allU8 a.4.length (atL rowB a.4)) <|
    gd (allU8 b.4.length (atL rowB b.4)) <|
    bif (strOfNums (numsOf a.4.length (atL rowB a.4))).toList == (strOfNums (numsOf b.4.length (atL rowB b.4))).toList then
     bif a.5 == b.5 then
      bif a.6 == b.6 then
       some ([(false, [.tr true (T.bool (a.7 == b.7))])], [(false, []), (false, [])])
      else
      some ([(false, [.tr true (T.bool false)])], [(false, []), (false, [])])
     else
     some ([(false, [.tr true (T.bool false)])], [(false, []), (false, [])])
    else
    some ([(false, [.tr true (T.bool false)])], [(false, []), (false, [])])
   else
   some ([(false, [.tr true (T.bool false)])], [(false, []), (false, [])])
  else
  some ([(false, [.tr true (T.bool false)])], [(false, []), (false, [])])
 else
 some ([(false, [.tr true (T.bool false)])], [(false, []), (false, [])])) := by kernel_rfl
theorem body_sSameAns (a : An) (b : An) (n : Nat) (h : ok_sSameAns (a, b)) : body prog (tabS []) kp_sSameAns n F_sSameAns (ea_sSameAns (a, b)) = some (erB 2 (f_sSameAns (a, b))) := by
  unfold ea_sSameAns f_sSameAns
  try dsimp only
  rw [pre_sSameAns]
  simp only [allU8_B, str_B, gd_true, int_eq, bytes_eq, bool_eq, Bool.and_true, cond_tf, cond_bf, dec_and, chainp]
  refine Eq.trans (fin_b fun b => some (erB 2 b)) ?_
  congr 2
  refine decide_eq_decide.2 ?_
  rcases a with ⟨x0, ⟨x1, x2⟩, ⟨⟨x3, x4⟩, x5, x6⟩, x7, x8, x9, x10⟩
  rcases b with ⟨y0, ⟨y1, y2⟩, ⟨⟨y3, y4⟩, y5, y6⟩, y7, y8, y9, y10⟩
  simp [and_assoc]
theorem s_sSameAns : EntOk prog i_sSameAns e_sSameAns := ent_ok ea_sSameAns_inj fun x hx =>
  body_sound (φ := (tabS [])) tabS_nil mixed (kp := kp_sSameAns) (n := 0) func16 (c := bodyOf F_sSameAns) (by kernel_rfl) (body_sSameAns x.1 x.2 (0) hx) (name_ok (by kernel_rfl))
end Go.Mach.F