/- sameRoom. Conditions: none. -/
import Derived.Test.YtphbidnhhhgmjaaJa
set_option linter.all false
namespace Go.Mach.F
open Go Go.Mach Go.Proofs.Try
--=set_option maxRecDepth 100000
def ok_sameRm (x : Rm × Rm) : Prop := x.1.kids.length ≤ LM ∧ x.1.things.length ≤ LM ∧ x.1.tags.length ≤ LM
def ea_sameRm (x : Rm × Rm) : List Arg := [aR x.1.cs, aR x.2.cs]
def f_sameRm (x : Rm × Rm) : Bool := decide (x.1 = x.2)
noncomputable def e_sameRm : Ent := ent [] ok_sameRm ea_sameRm (erB 2) f_sameRm
theorem ea_sameRm_inj (x y : Rm × Rm) (h : ea_sameRm x = ea_sameRm y) : x = y := by
  obtain ⟨a1, b1⟩ := x
  obtain ⟨a2, b2⟩ := y
  simp only [ea_sameRm, List.cons.injEq, and_true, true_and] at h
  obtain ⟨e0, e1⟩ := h
  obtain rfl := Rm.cs_ext (aR_inj e0)
  obtain rfl := Rm.cs_ext (aR_inj e1)
  rfl
theorem dm_sameRm {a : Rm} {b : Rm} (h : ok_sameRm (a, b)) : dom ok_sameRm ea_sameRm [(0, true, [C.tr false (T.int IntKind.i64 a.h.slot), C.tr false (T.int IntKind.i64 a.h.gen), C.tr false (T.int IntKind.i64 a.up.slot), C.tr false (T.int IntKind.i64 a.up.gen), C.tr false (T.arr 2 a.kids.length (atL Hd.cs a.kids)), C.tr false (T.int IntKind.i64 a.ep), C.tr false (T.int IntKind.i64 a.chunks), C.tr false (T.bool a.cur), C.tr false (T.int IntKind.i64 a.bump), C.tr false (T.arr 1 a.things.length (atL Sf.cs a.things)), C.tr false (T.arr 1 a.tags.length (atL rowI a.tags))]), (0, true, [C.tr false (T.int IntKind.i64 b.h.slot), C.tr false (T.int IntKind.i64 b.h.gen), C.tr false (T.int IntKind.i64 b.up.slot), C.tr false (T.int IntKind.i64 b.up.gen), C.tr false (T.arr 2 b.kids.length (atL Hd.cs b.kids)), C.tr false (T.int IntKind.i64 b.ep), C.tr false (T.int IntKind.i64 b.chunks), C.tr false (T.bool b.cur), C.tr false (T.int IntKind.i64 b.bump), C.tr false (T.arr 1 b.things.length (atL Sf.cs b.things)), C.tr false (T.arr 1 b.tags.length (atL rowI b.tags))])] = true := dom_ea (ea := ea_sameRm) (x := (a, b)) h
theorem iv_sameRm {a : Rm} {b : Rm} (h : ok_sameRm (a, b)) : inv ok_sameRm ea_sameRm [(0, true, [C.tr false (T.int IntKind.i64 a.h.slot), C.tr false (T.int IntKind.i64 a.h.gen), C.tr false (T.int IntKind.i64 a.up.slot), C.tr false (T.int IntKind.i64 a.up.gen), C.tr false (T.arr 2 a.kids.length (atL Hd.cs a.kids)), C.tr false (T.int IntKind.i64 a.ep), C.tr false (T.int IntKind.i64 a.chunks), C.tr false (T.bool a.cur), C.tr false (T.int IntKind.i64 a.bump), C.tr false (T.arr 1 a.things.length (atL Sf.cs a.things)), C.tr false (T.arr 1 a.tags.length (atL rowI a.tags))]), (0, true, [C.tr false (T.int IntKind.i64 b.h.slot), C.tr false (T.int IntKind.i64 b.h.gen), C.tr false (T.int IntKind.i64 b.up.slot), C.tr false (T.int IntKind.i64 b.up.gen), C.tr false (T.arr 2 b.kids.length (atL Hd.cs b.kids)), C.tr false (T.int IntKind.i64 b.ep), C.tr false (T.int IntKind.i64 b.chunks), C.tr false (T.bool b.cur), C.tr false (T.int IntKind.i64 b.bump), C.tr false (T.arr 1 b.things.length (atL Sf.cs b.things)), C.tr false (T.arr 1 b.tags.length (atL rowI b.tags))])] = (a, b) := inv_ea ea_sameRm_inj (x := (a, b)) h
theorem d_sameRm (a : Rm) (b : Rm) : f_sameRm (a, b) = decide (a = b) := rfl
def i_sameRm : Nat := 83
noncomputable abbrev F_sameRm : Func := f83
def kp_sameRm : List (Nat × List Nat) := [(0, [8, 9, 12, 13, 44, 48, 52, 56, 60, 72, 76, 80, 84, 88, 100, 104, 108, 112, 116, 128, 132, 136, 140, 144, 156, 160, 164, 168, 172, 184, 188, 192, 196, 200, 212, 216, 220, 224, 228, 240, 244, 248, 252, 256]), (1, [16])]
def ts_sameRm : List Nat := [0, 0]
theorem pre_sameRm (a : Rm) (b : Rm) (n : Nat) : body prog (tabS [(i_slEqH, e_slEqH), (i_efSf, e_efSf), (i_slEqI, e_slEqI)]) kp_sameRm n F_sameRm [aR a.cs, aR b.cs] = (
 bif bif a.h.1 == b.h.1 then bif a.h.2 == b.h.2 then true else false else false then
  bif bif a.up.1 == b.up.1 then bif a.up.2 == b.up.2 then true else false else false then
   gd (dom ok_slEqH ea_slEqH [(0, false, [C.tr false (eL 2 Hd.cs a.3)]), (0, false, [C.tr false (eL 2 Hd.cs b.3)])]) <|
   bif f_slEqH (inv ok_slEqH ea_slEqH [(0, false, [C.tr false (eL 2 Hd.cs a.3)]), (0, false, [C.tr false (eL 2 Hd.cs b.3)])]) then
    bif a.4 == b.4 then
     bif a.5 == b.5 then
      bif a.6 == b.6 then
       bif a.7 == b.7 then
        gd (dom ok_efSf ea_efSf
  [(0, false, [C.tr false (eL 1 Sf.cs a.8)]), (0, false, [C.tr false (eL 1 Sf.cs b.8)]), (0, false, [C.fn 116 []])]) <|
        bif f_efSf
  (inv ok_efSf ea_efSf
    [(0, false, [C.tr false (eL 1 Sf.cs a.8)]), (0, false, [C.tr false (eL 1 Sf.cs b.8)]), (0, false, [C.fn 116 []])]) then
         gd (dom ok_slEqI ea_slEqI [(0, false, [C.tr false (eL 1 rowI a.9)]), (0, false, [C.tr false (eL 1 rowI b.9)])]) <|
         some ([(false, [.tr true (T.bool
  (f_slEqI
    (inv ok_slEqI ea_slEqI [(0, false, [C.tr false (eL 1 rowI a.9)]), (0, false, [C.tr false (eL 1 rowI b.9)])])))])], [(false, []), (false, [])])
        else
        some ([(false, [.tr true (T.bool false)])], [(false, []), (false, [])])
       else
       some ([(false, [.tr true (T.bool false)])], [(false, []), (false, [])])
      else
      some ([(false, [.tr true (T.bool false)])], [(false, []), (false, [])])
     else
     some ([(false, [.tr true (T.bool false)])], [(false, []), (false, [])])
    else
    some ([(false, [.tr true (T.bool false)])], [(false, []), (false, [])])
   else
   some ([(false, [.tr true (T.bool false)])], [(false, []), (false, [])])
  else
  some ([(false, [.tr true (T.bool false)])], [(false, []), (false, [])])
 else
 some ([(false, [.tr true (T.bool false)])], [(false, []), (false, [])])) := by kernel_rfl
theorem body_sameRm (a : Rm) (b : Rm) (n : Nat) (h : ok_sameRm (a, b)) : body prog (tabS [(i_slEqH, e_slEqH), (i_efSf, e_efSf), (i_slEqI, e_slEqI)]) kp_sameRm n F_sameRm (ea_sameRm (a, b)) = some (erB 2 (f_sameRm (a, b))) := by
  have c0 : ok_slEqH (a.kids, b.kids) := h.1
  have c1 : ok_efSf (a.things, b.things) := h.2.1
  have c2 : ok_slEqI (a.tags, b.tags) := h.2.2
  unfold ea_sameRm f_sameRm
  try dsimp only
  rw [pre_sameRm]
  simp only [eL_T, dm_slEqH c0, iv_slEqH c0, d_slEqH, dm_efSf c1, iv_efSf c1, d_efSf, dm_slEqI c2, iv_slEqI c2, d_slEqI, gd_true, int_eq, bytes_eq, bool_eq, Bool.and_true, cond_tf, cond_bf, dec_and, chainp]
  refine Eq.trans (fin_b fun b => some (erB 2 b)) ?_
  congr 2
  refine decide_eq_decide.2 ?_
  rcases a with ⟨⟨x0, x1⟩, ⟨x2, x3⟩, x4, x5, x6, x7, x8, x9, x10⟩
  rcases b with ⟨⟨y0, y1⟩, ⟨y2, y3⟩, y4, y5, y6, y7, y8, y9, y10⟩
  simp [and_assoc]
theorem s_sameRm : EntOk prog i_sameRm e_sameRm := ent_ok ea_sameRm_inj fun x hx =>
  body_sound (φ := (tabS [(i_slEqH, e_slEqH), (i_efSf, e_efSf), (i_slEqI, e_slEqI)])) (tabS_cons s_slEqH (tabS_cons s_efSf (tabS_cons s_slEqI tabS_nil))) mixed (kp := kp_sameRm) (n := 0) func83 (c := bodyOf F_sameRm) (by kernel_rfl) (body_sameRm x.1 x.2 (0) hx) (name_ok (by kernel_rfl))
def ok_l24Same (x : Rm × Rm) : Prop := x.1.kids.length ≤ LM ∧ x.1.things.length ≤ LM ∧ x.1.tags.length ≤ LM
def ea_l24Same (x : Rm × Rm) : List Arg := [aR x.1.cs, aR x.2.cs]
def f_l24Same (x : Rm × Rm) : Bool := decide (x.1 = x.2)
noncomputable def e_l24Same : Ent := ent [] ok_l24Same ea_l24Same (erB 2) f_l24Same
theorem ea_l24Same_inj (x y : Rm × Rm) (h : ea_l24Same x = ea_l24Same y) : x = y := by
  obtain ⟨a1, b1⟩ := x
  obtain ⟨a2, b2⟩ := y
  simp only [ea_l24Same, List.cons.injEq, and_true, true_and] at h
  obtain ⟨e0, e1⟩ := h
  obtain rfl := Rm.cs_ext (aR_inj e0)
  obtain rfl := Rm.cs_ext (aR_inj e1)
  rfl
theorem dm_l24Same {a : Rm} {b : Rm} (h : ok_l24Same (a, b)) : dom ok_l24Same ea_l24Same [(0, true, [C.tr false (T.int IntKind.i64 a.h.slot), C.tr false (T.int IntKind.i64 a.h.gen), C.tr false (T.int IntKind.i64 a.up.slot), C.tr false (T.int IntKind.i64 a.up.gen), C.tr false (T.arr 2 a.kids.length (atL Hd.cs a.kids)), C.tr false (T.int IntKind.i64 a.ep), C.tr false (T.int IntKind.i64 a.chunks), C.tr false (T.bool a.cur), C.tr false (T.int IntKind.i64 a.bump), C.tr false (T.arr 1 a.things.length (atL Sf.cs a.things)), C.tr false (T.arr 1 a.tags.length (atL rowI a.tags))]), (0, true, [C.tr false (T.int IntKind.i64 b.h.slot), C.tr false (T.int IntKind.i64 b.h.gen), C.tr false (T.int IntKind.i64 b.up.slot), C.tr false (T.int IntKind.i64 b.up.gen), C.tr false (T.arr 2 b.kids.length (atL Hd.cs b.kids)), C.tr false (T.int IntKind.i64 b.ep), C.tr false (T.int IntKind.i64 b.chunks), C.tr false (T.bool b.cur), C.tr false (T.int IntKind.i64 b.bump), C.tr false (T.arr 1 b.things.length (atL Sf.cs b.things)), C.tr false (T.arr 1 b.tags.length (atL rowI b.tags))])] = true := dom_ea (ea := ea_l24Same) (x := (a, b)) h
theorem iv_l24Same {a : Rm} {b : Rm} (h : ok_l24Same (a, b)) : inv ok_l24Same ea_l24Same [(0, true, [C.tr false (T.int IntKind.i64 a.h.slot), C.tr false (T.int IntKind.i64 a.h.gen), C.tr false (T.int IntKind.i64 a.up.slot), C.tr false (T.int IntKind.i64 a.up.gen), C.tr false (T.arr 2 a.kids.length (atL Hd.cs a.kids)), C.tr false (T.int IntKind.i64 a.ep), C.tr false (T.int IntKind.i64 a.chunks), C.tr false (T.bool a.cur), C.tr false (T.int IntKind.i64 a.bump), C.tr false (T.arr 1 a.things.length (atL Sf.cs a.things)), C.tr false (T.arr 1 a.tags.length (atL rowI a.tags))]), (0, true, [C.tr false (T.int IntKind.i64 b.h.slot), C.tr false (T.int IntKind.i64 b.h.gen), C.tr false (T.int IntKind.i64 b.up.slot), C.tr false (T.int IntKind.i64 b.up.gen), C.tr false (T.arr 2 b.kids.length (atL Hd.cs b.kids)), C.tr false (T.int IntKind.i64 b.ep), C.tr false (T.int IntKind.i64 b.chunks), C.tr false (T.bool b.cur), C.tr false (T.int IntKind.i64 b.bump), C.tr false (T.arr 1 b.things.length (atL Sf.cs b.things)), C.tr false (T.arr 1 b.tags.length (atL rowI b.tags))])] = (a, b) := inv_ea ea_l24Same_inj (x := (a, b)) h
theorem d_l24Same (a : Rm) (b : Rm) : f_l24Same (a, b) = decide (a = b) := rfl
def i_l24Same : Nat := 81
noncomputable abbrev F_l24Same : Func := f81
def kp_l24Same : List (Nat × List Nat) := [(0, [8, 9, 12, 13, 52, 56, 60, 64, 68, 80, 84, 88, 92, 96, 100, 104, 116, 120, 124, 128, 132, 144, 148, 152, 156, 160, 172, 176, 180, 184, 188, 200, 204, 208, 212, 216, 228, 232, 236, 240, 244, 248, 252, 264, 268, 272, 276, 280, 284]), (1, [8, 9, 12, 13, 288]), (2, [16]), (3, [8, 9, 12, 13, 20]), (4, [8, 9, 12, 13, 20, 308]), (5, [8, 9, 12, 13, 20]), (6, [8, 9, 12, 13, 20, 360]), (7, [16]), (8, [8, 9, 12, 13, 24]), (9, [8, 9, 12, 13, 24, 380]), (10, [8, 9, 12, 13, 24]), (11, [8, 9, 12, 13, 24, 448]), (12, [16]), (13, [16])]
def ts_l24Same : List Nat := [0, 0]
def st_l24Same_1 (a : Rm) (b : Rm) (x20 : Int) : St := [(8, ⟨z0, [(false, [(C.pt (Pt.ptr 9 0 [] 11 0 0))])]⟩), (9, ⟨z0, [(true, [.tr true (T.int IntKind.i64 a.h.1), .tr true (T.int IntKind.i64 a.h.2), .tr true (T.int IntKind.i64 a.up.1), .tr true (T.int IntKind.i64 a.up.2), .tr false (eL 2 Hd.cs a.3), .tr true (T.int IntKind.i64 a.4), .tr true (T.int IntKind.i64 a.5), .tr true (T.bool a.6), .tr true (T.int IntKind.i64 a.7), .tr false (eL 1 Sf.cs a.8), .tr false (eL 1 rowI a.9)])]⟩), (12, ⟨z0, [(false, [(C.pt (Pt.ptr 13 0 [] 11 0 0))])]⟩), (13, ⟨z0, [(true, [.tr true (T.int IntKind.i64 b.h.1), .tr true (T.int IntKind.i64 b.h.2), .tr true (T.int IntKind.i64 b.up.1), .tr true (T.int IntKind.i64 b.up.2), .tr false (eL 2 Hd.cs b.3), .tr true (T.int IntKind.i64 b.4), .tr true (T.int IntKind.i64 b.5), .tr true (T.bool b.6), .tr true (T.int IntKind.i64 b.7), .tr false (eL 1 Sf.cs b.8), .tr false (eL 1 rowI b.9)])]⟩), (20, ⟨z0, [(false, [.tr true (T.int IntKind.i64 x20)])]⟩)]
def ex_l24Same_1_1 (a : Rm) (b : Rm) (x20 : Int) : St := [(16, ⟨z0, [(false, [.tr true (T.bool false)])]⟩)]
def ex_l24Same_1_2 (a : Rm) (b : Rm) (x20 : Int) : St := [(8, ⟨z0, [(false, [(C.pt (Pt.ptr 9 0 [] 11 0 0))])]⟩), (9, ⟨z0, [(true, [.tr true (T.int IntKind.i64 a.h.1), .tr true (T.int IntKind.i64 a.h.2), .tr true (T.int IntKind.i64 a.up.1), .tr true (T.int IntKind.i64 a.up.2), .tr false (eL 2 Hd.cs a.3), .tr true (T.int IntKind.i64 a.4), .tr true (T.int IntKind.i64 a.5), .tr true (T.bool a.6), .tr true (T.int IntKind.i64 a.7), .tr false (eL 1 Sf.cs a.8), .tr false (eL 1 rowI a.9)])]⟩), (12, ⟨z0, [(false, [(C.pt (Pt.ptr 13 0 [] 11 0 0))])]⟩), (13, ⟨z0, [(true, [.tr true (T.int IntKind.i64 b.h.1), .tr true (T.int IntKind.i64 b.h.2), .tr true (T.int IntKind.i64 b.up.1), .tr true (T.int IntKind.i64 b.up.2), .tr false (eL 2 Hd.cs b.3), .tr true (T.int IntKind.i64 b.4), .tr true (T.int IntKind.i64 b.5), .tr true (T.bool b.6), .tr true (T.int IntKind.i64 b.7), .tr false (eL 1 Sf.cs b.8), .tr false (eL 1 rowI b.9)])]⟩), (20, ⟨z0, [(false, [.tr true (T.int IntKind.i64 x20)])]⟩), (308, ⟨z0, []⟩)]
def st_l24Same_2 (a : Rm) (b : Rm) (x24 : Int) : St := [(8, ⟨z0, [(false, [(C.pt (Pt.ptr 9 0 [] 11 0 0))])]⟩), (9, ⟨z0, [(true, [.tr true (T.int IntKind.i64 a.h.1), .tr true (T.int IntKind.i64 a.h.2), .tr true (T.int IntKind.i64 a.up.1), .tr true (T.int IntKind.i64 a.up.2), .tr false (eL 2 Hd.cs a.3), .tr true (T.int IntKind.i64 a.4), .tr true (T.int IntKind.i64 a.5), .tr true (T.bool a.6), .tr true (T.int IntKind.i64 a.7), .tr false (eL 1 Sf.cs a.8), .tr false (eL 1 rowI a.9)])]⟩), (12, ⟨z0, [(false, [(C.pt (Pt.ptr 13 0 [] 11 0 0))])]⟩), (13, ⟨z0, [(true, [.tr true (T.int IntKind.i64 b.h.1), .tr true (T.int IntKind.i64 b.h.2), .tr true (T.int IntKind.i64 b.up.1), .tr true (T.int IntKind.i64 b.up.2), .tr false (eL 2 Hd.cs b.3), .tr true (T.int IntKind.i64 b.4), .tr true (T.int IntKind.i64 b.5), .tr true (T.bool b.6), .tr true (T.int IntKind.i64 b.7), .tr false (eL 1 Sf.cs b.8), .tr false (eL 1 rowI b.9)])]⟩), (24, ⟨z0, [(false, [.tr true (T.int IntKind.i64 x24)])]⟩)]
def ex_l24Same_2_1 (a : Rm) (b : Rm) (x24 : Int) : St := [(16, ⟨z0, [(false, [.tr true (T.bool false)])]⟩)]
def ex_l24Same_2_2 (a : Rm) (b : Rm) (x24 : Int) : St := [(8, ⟨z0, [(false, [(C.pt (Pt.ptr 9 0 [] 11 0 0))])]⟩), (9, ⟨z0, [(true, [.tr true (T.int IntKind.i64 a.h.1), .tr true (T.int IntKind.i64 a.h.2), .tr true (T.int IntKind.i64 a.up.1), .tr true (T.int IntKind.i64 a.up.2), .tr false (eL 2 Hd.cs a.3), .tr true (T.int IntKind.i64 a.4), .tr true (T.int IntKind.i64 a.5), .tr true (T.bool a.6), .tr true (T.int IntKind.i64 a.7), .tr false (eL 1 Sf.cs a.8), .tr false (eL 1 rowI a.9)])]⟩), (12, ⟨z0, [(false, [(C.pt (Pt.ptr 13 0 [] 11 0 0))])]⟩), (13, ⟨z0, [(true, [.tr true (T.int IntKind.i64 b.h.1), .tr true (T.int IntKind.i64 b.h.2), .tr true (T.int IntKind.i64 b.up.1), .tr true (T.int IntKind.i64 b.up.2), .tr false (eL 2 Hd.cs b.3), .tr true (T.int IntKind.i64 b.4), .tr true (T.int IntKind.i64 b.5), .tr true (T.bool b.6), .tr true (T.int IntKind.i64 b.7), .tr false (eL 1 Sf.cs b.8), .tr false (eL 1 rowI b.9)])]⟩), (24, ⟨z0, [(false, [.tr true (T.int IntKind.i64 x24)])]⟩), (380, ⟨z0, []⟩)]
theorem round_l24Same_2 (a : Rm) (b : Rm) (x24 : Int) (n : Nat) (K : Ex → St → Res) : roundAt prog (tabS [(i_l7Same, e_l7Same)]) kp_l24Same F_l24Same [1, 1, 1, 0, 1, 0] n (st_l24Same_2 a b x24) K = (
 bif decide (x24 < (↑a.8.length : Int)) then
  gd (decide (0 ≤ x24) && (x24.toNat.blt a.8.length && true)) <|
  gd ((atL Sf.cs a.8 x24.toNat 0).isArr && (atL Sf.cs a.8 x24.toNat 0).wd.beq 1) <|
  gd (allU8 (atL Sf.cs a.8 x24.toNat 0).ln (atL Sf.cs a.8 x24.toNat 0).fn) <|
  gd (decide (0 ≤ x24) && (x24.toNat.blt b.8.length && true)) <|
  gd ((atL Sf.cs b.8 x24.toNat 0).isArr && (atL Sf.cs b.8 x24.toNat 0).wd.beq 1) <|
  gd (allU8 (atL Sf.cs b.8 x24.toNat 0).ln (atL Sf.cs b.8 x24.toNat 0).fn) <|
  bif !(strOfNums (numsOf (atL Sf.cs a.8 x24.toNat 0).ln (atL Sf.cs a.8 x24.toNat 0).fn)).toList ==
    (strOfNums (numsOf (atL Sf.cs b.8 x24.toNat 0).ln (atL Sf.cs b.8 x24.toNat 0).fn)).toList then
   K .ret (ex_l24Same_2_1 a b x24)
  else
  K .normal (st_l24Same_2 a b (IntKind.i64.wrap (x24 + 1)))
 else
 K (.exit 2) (ex_l24Same_2_2 a b x24)) := by kernel_rfl
theorem post_l24Same_2_1 (a : Rm) (b : Rm) (x24 : Int) (n : Nat) : contAt prog (tabS [(i_l7Same, e_l7Same)]) kp_l24Same F_l24Same ts_l24Same [1, 1, 1, 0, 1, 0] [] n .ret (ex_l24Same_2_1 a b x24) = (
 some ([(false, [.tr true (T.bool false)])], [(false, []), (false, [])])) := by kernel_rfl
theorem post_l24Same_2_2 (a : Rm) (b : Rm) (x24 : Int) (n : Nat) : contAt prog (tabS [(i_l7Same, e_l7Same)]) kp_l24Same F_l24Same ts_l24Same [1, 1, 1, 0, 1, 0] [] n (.exit 2) (ex_l24Same_2_2 a b x24) = (
 some ([(false, [.tr true (T.bool true)])], [(false, []), (false, [])])) := by kernel_rfl
theorem round_l24Same_1 (a : Rm) (b : Rm) (x20 : Int) (n : Nat) (K : Ex → St → Res) : roundAt prog (tabS [(i_l7Same, e_l7Same)]) kp_l24Same F_l24Same [1, 1, 0, 1, 0] n (st_l24Same_1 a b x20) K = (
 bif decide (x20 < (↑a.3.length : Int)) then
  gd (decide (0 ≤ x20) && (x20.toNat.blt a.3.length && true)) <|
  gd (T.isI IntKind.i64 (atL Hd.cs a.3 x20.toNat 0) && T.isI IntKind.i64 (atL Hd.cs a.3 x20.toNat 1)) <|
  gd (decide (0 ≤ x20) && (x20.toNat.blt b.3.length && true)) <|
  gd (T.isI IntKind.i64 (atL Hd.cs b.3 x20.toNat 0) && T.isI IntKind.i64 (atL Hd.cs b.3 x20.toNat 1)) <|
  bif !bif (atL Hd.cs a.3 x20.toNat 0).toI == (atL Hd.cs b.3 x20.toNat 0).toI then
    bif (atL Hd.cs a.3 x20.toNat 1).toI == (atL Hd.cs b.3 x20.toNat 1).toI then true else false
  else false then
   K .ret (ex_l24Same_1_1 a b x20)
  else
  K .normal (st_l24Same_1 a b (IntKind.i64.wrap (x20 + 1)))
 else
 K (.exit 0) (ex_l24Same_1_2 a b x20)) := by kernel_rfl
theorem post_l24Same_1_1 (a : Rm) (b : Rm) (x20 : Int) (n : Nat) : contAt prog (tabS [(i_l7Same, e_l7Same)]) kp_l24Same F_l24Same ts_l24Same [1, 1, 0, 1, 0] [] n .ret (ex_l24Same_1_1 a b x20) = (
 some ([(false, [.tr true (T.bool false)])], [(false, []), (false, [])])) := by kernel_rfl
theorem post_l24Same_1_2 (a : Rm) (b : Rm) (x20 : Int) (n : Nat) : contAt prog (tabS [(i_l7Same, e_l7Same)]) kp_l24Same F_l24Same ts_l24Same [1, 1, 0, 1, 0] [] n (.exit 0) (ex_l24Same_1_2 a b x20) = (
 loopAt prog (tabS [(i_l7Same, e_l7Same)]) kp_l24Same F_l24Same [1, 1, 1, 0, 1, 0] n n (st_l24Same_2 a b (0)) (contAt prog (tabS [(i_l7Same, e_l7Same)]) kp_l24Same F_l24Same ts_l24Same [1, 1, 1, 0, 1, 0] [] n)) := by kernel_rfl
theorem pre_l24Same (a : Rm) (b : Rm) (n : Nat) : body prog (tabS [(i_l7Same, e_l7Same)]) kp_l24Same n F_l24Same [aR a.cs, aR b.cs] = (
 bif !bif a.h.1 == b.h.1 then bif a.h.2 == b.h.2 then true else false else false then
  some ([(false, [.tr true (T.bool false)])], [(false, []), (false, [])])
 else
 bif !bif a.up.1 == b.up.1 then bif a.up.2 == b.up.2 then true else false else false then
  some ([(false, [.tr true (T.bool false)])], [(false, []), (false, [])])
 else
 bif (↑a.3.length : Int) != (↑b.3.length : Int) then
  some ([(false, [.tr true (T.bool false)])], [(false, []), (false, [])])
 else
 bif a.4 != b.4 then
  some ([(false, [.tr true (T.bool false)])], [(false, []), (false, [])])
 else
 bif a.5 != b.5 then
  some ([(false, [.tr true (T.bool false)])], [(false, []), (false, [])])
 else
 bif !a.6 == b.6 then
  some ([(false, [.tr true (T.bool false)])], [(false, []), (false, [])])
 else
 bif a.7 != b.7 then
  some ([(false, [.tr true (T.bool false)])], [(false, []), (false, [])])
 else
 bif (↑a.8.length : Int) != (↑b.8.length : Int) then
  some ([(false, [.tr true (T.bool false)])], [(false, []), (false, [])])
 else
 gd (dom ok_l7Same ea_l7Same [(0, false, [C.tr false (eL 1 rowI a.9)]), (0, false, [C.tr false (eL 1 rowI b.9)])]) <|
 bif !f_l7Same
    (inv ok_l7Same ea_l7Same [(0, false, [C.tr false (eL 1 rowI a.9)]), (0, false, [C.tr false (eL 1 rowI b.9)])]) then
  some ([(false, [.tr true (T.bool false)])], [(false, []), (false, [])])
 else
 loopAt prog (tabS [(i_l7Same, e_l7Same)]) kp_l24Same F_l24Same [1, 1, 0, 1, 0] n n (st_l24Same_1 a b (0)) (contAt prog (tabS [(i_l7Same, e_l7Same)]) kp_l24Same F_l24Same ts_l24Same [1, 1, 0, 1, 0] [] n)) := by kernel_rfl
theorem body_l24Same (a : Rm) (b : Rm) (h : ok_l24Same (a, b)) : body prog (tabS [(i_l7Same, e_l7Same)]) kp_l24Same (a.kids.length + a.things.length + 1) F_l24Same (ea_l24Same (a, b)) = some (erB 2 (f_l24Same (a, b))) := by
  have hlm := lm
  obtain ⟨hl0, hl1, hl2⟩ : a.kids.length ≤ LM ∧ a.things.length ≤ LM ∧ a.tags.length ≤ LM := h
  have c2 : ok_l7Same (a.tags, b.tags) := hl2
  unfold ea_l24Same f_l24Same
  try dsimp only
  rw [pre_l24Same]
  simp only [eL_T, dm_l7Same c2, iv_l7Same c2, d_l7Same, gd_true, int_ne, int_eq, bool_eq, bool_ne, Bool.and_true, cond_tf, cond_bf, dec_and, chain, and_assoc]
  by_cases hP : a.h.slot = b.h.slot ∧ a.h.gen = b.h.gen ∧ a.up.slot = b.up.slot ∧ a.up.gen = b.up.gen ∧ (a.kids.length : Int) = b.kids.length ∧ a.ep = b.ep ∧ a.chunks = b.chunks ∧ a.cur = b.cur ∧ a.bump = b.bump ∧ (a.things.length : Int) = b.things.length ∧ a.tags = b.tags
  · simp only [decide_eq_true hP, Bool.not_true, cond_false]
    obtain ⟨h0, h1, h2, h3, h4, h5, h6, h7, h8, h9, h10⟩ := hP
    rw [show st_l24Same_1 a b 0 = (fun i : Nat => st_l24Same_1 a b (i : Nat)) 0 from rfl, eqSj a.kids b.kids (by omega) (fun i : Nat => st_l24Same_1 a b (i : Nat)) (fun i : Nat => ex_l24Same_1_1 a b (i : Nat)) (ex_l24Same_1_2 a b a.kids.length) (fun i x y K hx hy => ?_) (fun K => ?_) (fun i => post_l24Same_1_1 a b _ _) (post_l24Same_1_2 a b _ _) _ (by omega)]
    rotate_left
    · have hi := (List.getElem?_eq_some_iff.1 hx).1
      have hi' := (List.getElem?_eq_some_iff.1 hy).1
      have hxm : x ∈ a.kids := List.mem_of_getElem? hx
      rw [round_l24Same_1]
      simp (disch := omega) only [lt_d, ge0_d, Int.toNat_natCast, blt_d, ble_self, beq_self, decide_true, cond_true, Bool.and_self, Bool.and_true, Bool.true_and, gd_true, Nat.zero_add, List.getD_cons_zero, List.getD_cons_succ, isI_int, toI_int, isB_bool, toB_bool, eL_T, arr_ln, arr_fn, arr_wd, arr_is, arr_get, hi, hi', atL_of hx, atL_of hy, Hd.cs, wrapS, int_eq, int_ne, bool_ne, bool_eq, bytes_eq, cond_tf, cond_bf, Bool.and_true, dec_and, chain]
      have hxy : (x.slot = y.slot ∧ x.gen = y.gen) ↔ x = y := by
        rcases x with ⟨x0, x1⟩
        rcases y with ⟨y0, y1⟩
        simp [and_assoc]
      try simp only [hxy]
    · rw [round_l24Same_1]
      simp only [lt_d, Nat.lt_irrefl, decide_false, cond_false]
    by_cases e1 : a.kids = b.kids
    · rw [if_pos e1]
      rw [show st_l24Same_2 a b 0 = (fun i : Nat => st_l24Same_2 a b (i : Nat)) 0 from rfl, eqSj a.things b.things (by omega) (fun i : Nat => st_l24Same_2 a b (i : Nat)) (fun i : Nat => ex_l24Same_2_1 a b (i : Nat)) (ex_l24Same_2_2 a b a.things.length) (fun i x y K hx hy => ?_) (fun K => ?_) (fun i => post_l24Same_2_1 a b _ _) (post_l24Same_2_2 a b _ _) _ (by omega)]
      rotate_left
      · have hi := (List.getElem?_eq_some_iff.1 hx).1
        have hi' := (List.getElem?_eq_some_iff.1 hy).1
        have hxm : x ∈ a.things := List.mem_of_getElem? hx
        rw [round_l24Same_2]
        simp (disch := omega) only [lt_d, ge0_d, Int.toNat_natCast, blt_d, ble_self, beq_self, decide_true, cond_true, Bool.and_self, Bool.and_true, Bool.true_and, gd_true, Nat.zero_add, List.getD_cons_zero, List.getD_cons_succ, isI_int, toI_int, isB_bool, toB_bool, eL_T, arr_ln, arr_fn, arr_wd, arr_is, arr_get, hi, hi', atL_of hx, atL_of hy, Sf.cs, wrapS, int_eq, int_ne, bool_ne, bool_eq, bytes_eq, cond_tf, cond_bf, Bool.and_true, dec_and, chain, allU8_B, str_B]
        have hxy : (x.b = y.b) ↔ x = y := by
          rcases x with ⟨x0⟩
          rcases y with ⟨y0⟩
          simp [and_assoc]
        try simp only [hxy]
      · rw [round_l24Same_2]
        simp only [lt_d, Nat.lt_irrefl, decide_false, cond_false]
      by_cases e2 : a.things = b.things
      · have : a = b := by
          rcases a with ⟨⟨x0, x1⟩, ⟨x2, x3⟩, x4, x5, x6, x7, x8, x9, x10⟩
          rcases b with ⟨⟨y0, y1⟩, ⟨y2, y3⟩, y4, y5, y6, y7, y8, y9, y10⟩
          simp_all
        rw [if_pos e2, decide_eq_true this]
        rfl
      · rw [if_neg e2, decide_eq_false (fun e => e2 (by rw [e]))]
        rfl
    · rw [if_neg e1, decide_eq_false (fun e => e1 (by rw [e]))]
      rfl
  · simp only [decide_eq_false hP, Bool.not_false, cond_true]
    rw [decide_eq_false (fun e => hP (by subst e; simp))]
    rfl
theorem s_l24Same : EntOk prog i_l24Same e_l24Same := ent_ok ea_l24Same_inj fun x hx =>
  body_sound (φ := (tabS [(i_l7Same, e_l7Same)])) (tabS_cons s_l7Same tabS_nil) mixed (kp := kp_l24Same) (n := x.1.kids.length + x.1.things.length + 1) func81 (c := bodyOf F_l24Same) (by kernel_rfl) (body_l24Same x.1 x.2 hx) (name_ok (by kernel_rfl))
end Go.Mach.F