/- FnExactModelNew. Conditions: none. -/
import Derived.Test.YtphbidnhhhgmjaaHa
set_option linter.all false
namespace Go.Mach.F
open Go Go.Mach Go.Proofs.Try
--=set_option maxRecDepth 100000
def i_iModelNew : Nat := 26
noncomputable abbrev F_iModelNew : Func := f26
def kp_iModelNew : List (Nat × List Nat) := [(0, [4, 5, 8, 9, 12, 16]), (1, [8, 9, 12, 16])]
noncomputable def e_iModelNew : Ent := inl [] prog (tabS []) kp_iModelNew 0 F_iModelNew
theorem s_iModelNew : EntOk prog i_iModelNew e_iModelNew := inl_ok tabS_nil mixed (c := bodyOf F_iModelNew) func26 (by kernel_rfl) (name_ok (by kernel_rfl))
def i_sModelNew : Nat := 24
noncomputable abbrev F_sModelNew : Func := f24
def kp_sModelNew : List (Nat × List Nat) := [(0, [4, 5, 8, 9, 12, 16]), (1, [8, 9, 12, 16])]
noncomputable def e_sModelNew : Ent := inl [] prog (tabS []) kp_sModelNew 0 F_sModelNew
theorem s_sModelNew : EntOk prog i_sModelNew e_sModelNew := inl_ok tabS_nil mixed (c := bodyOf F_sModelNew) func24 (by kernel_rfl) (name_ok (by kernel_rfl))
def i_mkRm0 : Nat := 70
noncomputable abbrev F_mkRm0 : Func := f70
def kp_mkRm0 : List (Nat × List Nat) := [(0, [0, 4, 2]), (1, [0, 4, 20, 2]), (2, [0, 4, 20, 36, 2]), (3, [0, 4, 20, 2]), (4, [0, 4, 20, 2]), (5, [0, 4, 20, 2]), (6, [0, 4, 20, 2]), (7, [0, 4, 20, 2]), (8, [0, 4, 20, 2]), (9, [0, 4, 20, 2]), (10, [0, 4, 20, 2]), (11, [0, 4, 20, 2]), (12, [0, 4, 20, 2]), (13, [0, 4, 20, 2]), (14, [0, 4, 20, 2]), (15, [0, 4, 20, 2]), (16, [0, 4, 20, 2]), (17, [0, 4, 20, 2]), (18, [0, 4, 20, 2]), (19, [0, 4, 20, 2]), (20, [0, 4, 20, 2]), (21, [0, 4, 20, 2]), (22, [0, 4, 20, 2]), (23, [16, 2])]
noncomputable def e_mkRm0 : Ent := inl [1, 0] prog (tabS []) kp_mkRm0 1 F_mkRm0
theorem s_mkRm0 : EntOk prog i_mkRm0 e_mkRm0 := inl_ok tabS_nil mixed (c := bodyOf F_mkRm0) func70 (by kernel_rfl) (name_ok (by kernel_rfl))
def i_mkLI0 : Nat := 71
noncomputable abbrev F_mkLI0 : Func := f71
def kp_mkLI0 : List (Nat × List Nat) := [(0, [0, 4, 2]), (1, [0, 4, 20, 2]), (2, [0, 4, 20, 36, 2]), (3, [0, 4, 20, 2]), (4, [0, 4, 20, 2]), (5, [0, 4, 20, 2]), (6, [16, 2])]
noncomputable def e_mkLI0 : Ent := inl [1, 0] prog (tabS []) kp_mkLI0 1 F_mkLI0
theorem s_mkLI0 : EntOk prog i_mkLI0 e_mkLI0 := inl_ok tabS_nil mixed (c := bodyOf F_mkLI0) func71 (by kernel_rfl) (name_ok (by kernel_rfl))
def i_hdRm0 : Nat := 72
noncomputable abbrev F_hdRm0 : Func := f72
def kp_hdRm0 : List (Nat × List Nat) := [(0, [0, 4]), (1, [0, 4, 20]), (2, [0, 4, 20, 36]), (3, [0, 4, 20]), (4, [0, 4, 20, 76]), (5, [16]), (6, [0, 4, 20]), (7, [0, 4, 20, 116]), (8, [16]), (9, [0, 4, 20]), (10, [0, 4, 20, 156]), (11, [16]), (12, [0, 4, 20]), (13, [0, 4, 20, 196]), (14, [16]), (15, [0, 4, 20]), (16, [0, 4, 20]), (17, [0, 4, 20, 240]), (18, [16]), (19, [0, 4, 20, 268]), (20, [16]), (21, [0, 4, 20]), (22, [0, 4, 20, 304]), (23, [16]), (24, [0, 4, 20]), (25, [0, 4, 20, 348]), (26, [16]), (27, [0, 4, 20]), (28, [0, 4, 20, 384]), (29, [16]), (30, [0, 4, 20]), (31, [0, 4, 20]), (32, [0, 4, 20, 428]), (33, [16]), (34, [0, 4, 20]), (35, [0, 4, 20, 464]), (36, [16]), (37, [16])]
noncomputable def e_hdRm0 : Ent := inl [] prog (tabS []) kp_hdRm0 1 F_hdRm0
theorem s_hdRm0 : EntOk prog i_hdRm0 e_hdRm0 := inl_ok tabS_nil mixed (c := bodyOf F_hdRm0) func72 (by kernel_rfl) (name_ok (by kernel_rfl))
def i_hdLI0 : Nat := 73
noncomputable abbrev F_hdLI0 : Func := f73
def kp_hdLI0 : List (Nat × List Nat) := [(0, [0, 4]), (1, [0, 4, 20]), (2, [0, 4, 20, 36]), (3, [0, 4, 20]), (4, [0, 4, 20, 68]), (5, [16]), (6, [0, 4, 20]), (7, [16])]
noncomputable def e_hdLI0 : Ent := inl [] prog (tabS []) kp_hdLI0 1 F_hdLI0
theorem s_hdLI0 : EntOk prog i_hdLI0 e_hdLI0 := inl_ok tabS_nil mixed (c := bodyOf F_hdLI0) func73 (by kernel_rfl) (name_ok (by kernel_rfl))
def i_mkMl0 : Nat := 28
noncomputable abbrev F_mkMl0 : Func := f28
def kp_mkMl0 : List (Nat × List Nat) := [(0, [4, 8, 9, 2]), (1, [4, 8, 9, 2]), (2, [4, 2]), (3, [16, 2])]
noncomputable def e_mkMl0 : Ent := inl [1, 0] prog (tabS [(i_mkRm0, e_mkRm0), (i_mkLI0, e_mkLI0)]) kp_mkMl0 0 F_mkMl0
theorem s_mkMl0 : EntOk prog i_mkMl0 e_mkMl0 := inl_ok (tabS_cons s_mkRm0 (tabS_cons s_mkLI0 tabS_nil)) mixed (c := bodyOf F_mkMl0) func28 (by kernel_rfl) (name_ok (by kernel_rfl))
def i_hdMl0 : Nat := 29
noncomputable abbrev F_hdMl0 : Func := f29
def kp_hdMl0 : List (Nat × List Nat) := [(0, [4, 8, 9]), (1, [4, 8, 9]), (2, [4, 8, 9, 40]), (3, [16]), (4, [4]), (5, [4, 64]), (6, [16]), (7, [16])]
noncomputable def e_hdMl0 : Ent := inl [] prog (tabS [(i_hdRm0, e_hdRm0), (i_hdLI0, e_hdLI0)]) kp_hdMl0 0 F_hdMl0
theorem s_hdMl0 : EntOk prog i_hdMl0 e_hdMl0 := inl_ok (tabS_cons s_hdRm0 (tabS_cons s_hdLI0 tabS_nil)) mixed (c := bodyOf F_hdMl0) func29 (by kernel_rfl) (name_ok (by kernel_rfl))
def i_xModelNew : Nat := 5
noncomputable abbrev F_xModelNew : Func := f5
def kp_xModelNew : List (Nat × List Nat) := [(0, [4, 5]), (1, [4, 5, 12, 13, 40]), (2, [4, 5, 12, 13, 16, 17, 40, 52]), (3, [4, 5, 12, 13, 16, 17, 40, 52, 68]), (4, [8]), (5, [4, 5, 12, 13, 16, 17, 20, 40, 52]), (6, [4, 5, 12, 13, 16, 17, 20, 40, 52]), (7, [4, 5, 12, 13, 16, 17, 20, 24, 40, 52]), (8, [4, 5, 12, 13, 16, 17, 20, 24, 40, 52]), (9, [4, 5, 12, 13, 16, 17, 20, 24, 40, 52, 100]), (10, [8]), (11, [4, 5, 12, 13, 16, 17, 20, 40, 52, 112]), (12, [8]), (13, [12, 13, 16, 17, 20, 28, 29, 40, 52, 124]), (14, [16, 17, 20, 52, 140]), (15, [8]), (16, [16, 17, 20, 24, 52]), (17, [20, 24]), (18, [20, 24, 160]), (19, [8]), (20, [172]), (21, [8]), (22, [8])]
def ts_xModelNew : List Nat := [0]
theorem pre_xModelNew (c : Cf) (n : Nat) : body prog (tabS [(i_toCf, e_toCf), (i_iModelNew, e_iModelNew), (i_sModelNew, e_sModelNew), (i_EqMl, e_EqMl), (i_mkMl0, e_mkMl0), (i_hdMl0, e_hdMl0)]) kp_xModelNew n F_xModelNew [aR c.cs] = (
 gd (dom ok_EqMl ea_EqMl
  [(0, true,
      [C.tr false (T.int IntKind.i64 c.1), C.tr false (T.int IntKind.i64 c.2), C.tr false (T.int IntKind.i64 c.3),
        C.tr false (T.int IntKind.i64 c.4), C.tr false (T.int IntKind.i64 c.5), C.tr false (T.int IntKind.i64 c.6),
        C.tr false (T.arr 11 0 (cutT 0 0 fun x x_1 => T.hole)), C.tr false (T.arr 1 0 (cutT 0 0 fun x x_1 => T.hole))]),
    (0, true,
      [C.tr false (T.int IntKind.i64 c.1), C.tr false (T.int IntKind.i64 c.2), C.tr false (T.int IntKind.i64 c.3),
        C.tr false (T.int IntKind.i64 c.4), C.tr false (T.int IntKind.i64 c.5), C.tr false (T.int IntKind.i64 c.6),
        C.tr false (T.arr 11 0 (cutT 0 0 fun x x_1 => T.hole)), C.tr false (T.arr 1 0 (cutT 0 0 fun x x_1 => T.hole))])]) <|
 bif !f_EqMl
    (inv ok_EqMl ea_EqMl
      [(0, true,
          [C.tr false (T.int IntKind.i64 c.1), C.tr false (T.int IntKind.i64 c.2),
            C.tr false (T.int IntKind.i64 c.3), C.tr false (T.int IntKind.i64 c.4),
            C.tr false (T.int IntKind.i64 c.5), C.tr false (T.int IntKind.i64 c.6),
            C.tr false (T.arr 11 0 (cutT 0 0 fun x x_1 => T.hole)),
            C.tr false (T.arr 1 0 (cutT 0 0 fun x x_1 => T.hole))]),
        (0, true,
          [C.tr false (T.int IntKind.i64 c.1), C.tr false (T.int IntKind.i64 c.2),
            C.tr false (T.int IntKind.i64 c.3), C.tr false (T.int IntKind.i64 c.4),
            C.tr false (T.int IntKind.i64 c.5), C.tr false (T.int IntKind.i64 c.6),
            C.tr false (T.arr 11 0 (cutT 0 0 fun x x_1 => T.hole)),
            C.tr false (T.arr 1 0 (cutT 0 0 fun x x_1 => T.hole))])]) then
  some ([(false, [.tr true (T.bool false)])], [(false, [])])
 else
 gd (dom ok_EqMl ea_EqMl
  [(0, true,
      [C.tr false (T.int IntKind.i64 c.1), C.tr false (T.int IntKind.i64 c.2), C.tr false (T.int IntKind.i64 c.3),
        C.tr false (T.int IntKind.i64 c.4), C.tr false (T.int IntKind.i64 c.5), C.tr false (T.int IntKind.i64 c.6),
        C.tr false (T.arr 11 0 (cutT 0 0 fun x x_1 => T.hole)), C.tr false (T.arr 1 0 (cutT 0 0 fun x x_1 => T.hole))]),
    (0, true,
      [C.tr false (T.int IntKind.i64 c.1), C.tr false (T.int IntKind.i64 c.2), C.tr false (T.int IntKind.i64 c.3),
        C.tr false (T.int IntKind.i64 c.4), C.tr false (T.int IntKind.i64 c.5), C.tr false (T.int IntKind.i64 c.6),
        C.tr false (T.arr 11 0 (cutT 0 0 fun x x_1 => T.hole)), C.tr false (T.arr 1 0 (cutT 0 0 fun x x_1 => T.hole))])]) <|
 bif !f_EqMl
    (inv ok_EqMl ea_EqMl
      [(0, true,
          [C.tr false (T.int IntKind.i64 c.1), C.tr false (T.int IntKind.i64 c.2),
            C.tr false (T.int IntKind.i64 c.3), C.tr false (T.int IntKind.i64 c.4),
            C.tr false (T.int IntKind.i64 c.5), C.tr false (T.int IntKind.i64 c.6),
            C.tr false (T.arr 11 0 (cutT 0 0 fun x x_1 => T.hole)),
            C.tr false (T.arr 1 0 (cutT 0 0 fun x x_1 => T.hole))]),
        (0, true,
          [C.tr false (T.int IntKind.i64 c.1), C.tr false (T.int IntKind.i64 c.2),
            C.tr false (T.int IntKind.i64 c.3), C.tr false (T.int IntKind.i64 c.4),
            C.tr false (T.int IntKind.i64 c.5), C.tr false (T.int IntKind.i64 c.6),
            C.tr false (T.arr 11 0 (cutT 0 0 fun x x_1 => T.hole)),
            C.tr false (T.arr 1 0 (cutT 0 0 fun x x_1 => T.hole))])]) then
  some ([(false, [.tr true (T.bool false)])], [(false, [])])
 else
 some ([(false, [.tr true (T.bool true)])], [(false, [])])) := by kernel_rfl
theorem cut0 {f : Nat → Nat → T} : cutT 0 0 f = fun _ _ => .hole := by
  funext j k
  rfl
theorem arr11 : T.arr 11 0 (fun _ _ => T.hole) = eL 11 Rm.cs [] := rfl
theorem arr1 : T.arr 1 0 (fun _ _ => T.hole) = eL 1 rowI [] := rfl
theorem body_xModelNew (c : Cf) (hc : z_Cf c) (n : Nat) : body prog (tabS [(i_toCf, e_toCf), (i_iModelNew, e_iModelNew), (i_sModelNew, e_sModelNew), (i_EqMl, e_EqMl), (i_mkMl0, e_mkMl0), (i_hdMl0, e_hdMl0)]) kp_xModelNew n F_xModelNew [aR c.cs] = some (erB 1 true) := by
  have hbm := bm
  have d : ok_EqMl (Ml.mk c [] [], Ml.mk c [] []) := ⟨⟨by simp, fun x hx => by cases hx⟩, by show ([] : List Int).length ≤ BM; simp⟩
  have h1 := dm_EqMl d
  have h2 := iv_EqMl d
  have h3 := d_EqMl (Ml.mk c [] []) (Ml.mk c [] [])
  rw [pre_xModelNew]
  simp only [cut0]
  have e1 : T.arr 11 0 (fun _ _ => T.hole) = T.arr 11 ([] : List Rm).length (atL Rm.cs []) := rfl
  have e2 : T.arr 1 0 (fun _ _ => T.hole) = T.arr 1 ([] : List Int).length (atL rowI []) := rfl
  simp only [e1, e2]
  simp only [h1, h2, h3, gd_true, decide_true, Bool.not_true, cond_false]
  rfl
theorem sd_xModelNew (c : Cf) (hc : z_Cf c) : Sound prog i_xModelNew [aR c.cs] (erB 1 true).1 (erB 1 true).2 :=
  body_sound (φ := (tabS [(i_toCf, e_toCf), (i_iModelNew, e_iModelNew), (i_sModelNew, e_sModelNew), (i_EqMl, e_EqMl), (i_mkMl0, e_mkMl0), (i_hdMl0, e_hdMl0)])) (tabS_cons s_toCf (tabS_cons s_iModelNew (tabS_cons s_sModelNew (tabS_cons s_EqMl (tabS_cons s_mkMl0 (tabS_cons s_hdMl0 tabS_nil)))))) mixed (kp := kp_xModelNew) (n := 0) func5 (c := bodyOf F_xModelNew) (by kernel_rfl) (body_xModelNew c hc 0) (name_ok (by kernel_rfl))
end Go.Mach.F