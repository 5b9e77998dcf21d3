/- RoomOf. Conditions: none. -/
import Derived.Test.YtkbhcdenfigpoaaHk
set_option linter.all false
namespace Go.Mach.F
open Go Go.Mach Go.Proofs.Try
--=set_option maxRecDepth 100000
def i_RoomOf1 : Nat := 153
noncomputable abbrev F_RoomOf1 : Func := f153
def kp_RoomOf1 : List (Nat × List Nat) := [(0, [4, 8, 9]), (1, [12])]
noncomputable def e_RoomOf1 : Ent := inl [0, 0] prog (tabS []) kp_RoomOf1 0 F_RoomOf1
theorem s_RoomOf1 : EntOk prog i_RoomOf1 e_RoomOf1 := inl_ok tabS_nil mixed (c := bodyOf F_RoomOf1) func153 (by kernel_rfl) (name_ok (by kernel_rfl))
def rof (l : List Rm) (h : Hd) : Int := match (List.range l.length).find? (fun i => decide (l[i]?.map Rm.h = some h)) with
  | some i => (i : Int)
  | none => -1
theorem hd_eq (x : Rm) (h : Hd) : (decide (x.h.slot = h.slot ∧ x.h.gen = h.gen)) = decide (some x.h = some h) := by
  refine decide_eq_decide.2 ?_
  rcases x with ⟨⟨_, _⟩, _⟩
  rcases h with ⟨_, _⟩
  simp
def ok_ixRm (x : List Rm × Hd) : Prop := x.1.length ≤ LM
def ea_ixRm (x : List Rm × Hd) : List Arg := [aT (eL 11 Rm.cs x.1), aF i_RoomOf1 x.2.cs]
def f_ixRm (x : List Rm × Hd) : Int := rof x.1 x.2
noncomputable def e_ixRm : Ent := ent [] ok_ixRm ea_ixRm (erI 2) f_ixRm
theorem ea_ixRm_inj (x y : List Rm × Hd) (h : ea_ixRm x = ea_ixRm y) : x = y := by
  obtain ⟨l1, h1⟩ := x
  obtain ⟨l2, h2⟩ := y
  simp only [ea_ixRm, List.cons.injEq, and_true, true_and] at h
  obtain ⟨e0, e1⟩ := h
  obtain rfl := eL_inj Rm.cs_inj (aT_inj e0)
  obtain rfl := Hd.cs_ext (aF_inj (by rfl) e1)
  rfl
theorem dm_ixRm {l : List Rm} {h : Hd} (h0 : ok_ixRm (l, h)) : dom ok_ixRm ea_ixRm [(0, false, [C.tr false (T.arr 11 l.length (atL Rm.cs l))]), (0, false, [C.fn 153 [Pt.pim 2 (pimF [T.int IntKind.i64 h.slot, T.int IntKind.i64 h.gen])]])] = true := dom_ea (ea := ea_ixRm) (x := (l, h)) h0
theorem iv_ixRm {l : List Rm} {h : Hd} (h0 : ok_ixRm (l, h)) : inv ok_ixRm ea_ixRm [(0, false, [C.tr false (T.arr 11 l.length (atL Rm.cs l))]), (0, false, [C.fn 153 [Pt.pim 2 (pimF [T.int IntKind.i64 h.slot, T.int IntKind.i64 h.gen])]])] = (l, h) := inv_ea ea_ixRm_inj (x := (l, h)) h0
theorem d_ixRm (l : List Rm) (h : Hd) : f_ixRm (l, h) = rof l h := rfl
def i_ixRm : Nat := 152
noncomputable abbrev F_ixRm : Func := f152
def kp_ixRm : List (Nat × List Nat) := [(0, [0, 4]), (1, [0, 4, 28, 32]), (2, [0, 4, 28, 32, 36]), (3, [0, 4, 20, 28, 32]), (4, [0, 4, 20, 28, 32, 64]), (5, [16]), (6, [0, 4, 28, 32]), (7, [16])]
def ts_ixRm : List Nat := [0, 0]
def st_ixRm_1 (l : List Rm) (h : Hd) (x32 : Int) : St := [(0, ⟨z0, [(false, [.tr false (eL 11 Rm.cs l)])]⟩), (4, ⟨z0, [(false, [(C.fn 153
  [Pt.pim [T.int IntKind.i64 h.1, T.int IntKind.i64 h.2].length
      (pimF [T.int IntKind.i64 h.1, T.int IntKind.i64 h.2])])])]⟩), (28, ⟨z0, [(false, [.tr true (T.int IntKind.i64 (↑l.length : Int))])]⟩), (32, ⟨z0, [(false, [.tr true (T.int IntKind.i64 x32)])]⟩)]
def ex_ixRm_1_1 (l : List Rm) (h : Hd) (x32 : Int) : St := [(16, ⟨z0, [(false, [.tr true (T.int IntKind.i64 x32)])]⟩)]
def ex_ixRm_1_2 (l : List Rm) (h : Hd) (x32 : Int) : St := [(0, ⟨z0, [(false, [.tr false (eL 11 Rm.cs l)])]⟩), (4, ⟨z0, [(false, [(C.fn 153
  [Pt.pim [T.int IntKind.i64 h.1, T.int IntKind.i64 h.2].length
      (pimF [T.int IntKind.i64 h.1, T.int IntKind.i64 h.2])])])]⟩), (28, ⟨z0, [(false, [.tr true (T.int IntKind.i64 (↑l.length : Int))])]⟩), (32, ⟨z0, [(false, [.tr true (T.int IntKind.i64 x32)])]⟩), (36, ⟨z0, []⟩)]
theorem round_ixRm_1 (l : List Rm) (h : Hd) (x32 : Int) (n : Nat) (K : Ex → St → Res) : roundAt prog (tabS [(i_RoomOf1, e_RoomOf1)]) kp_ixRm F_ixRm [1, 0, 1, 0] n (st_ixRm_1 l h x32) K = (
 bif decide (x32 < (↑l.length : Int)) then
  gd (decide (0 ≤ x32) && (x32.toNat.blt l.length && true)) <|
  gd (T.isI IntKind.i64 (atL Rm.cs l x32.toNat 0) && T.isI IntKind.i64 (atL Rm.cs l x32.toNat 1) &&
                  T.isI IntKind.i64 (atL Rm.cs l x32.toNat 2) &&
                T.isI IntKind.i64 (atL Rm.cs l x32.toNat 3) &&
              ((atL Rm.cs l x32.toNat 4).isArr && (atL Rm.cs l x32.toNat 4).wd.beq 2) &&
            T.isI IntKind.i64 (atL Rm.cs l x32.toNat 5) &&
          T.isI IntKind.i64 (atL Rm.cs l x32.toNat 6) &&
        (atL Rm.cs l x32.toNat 7).isB &&
      T.isI IntKind.i64 (atL Rm.cs l x32.toNat 8) &&
    ((atL Rm.cs l x32.toNat 9).isArr && (atL Rm.cs l x32.toNat 9).wd.beq 1) &&
  ((atL Rm.cs l x32.toNat 10).isArr && (atL Rm.cs l x32.toNat 10).wd.beq 1)) <|
  bif bif (atL Rm.cs l x32.toNat 0).toI == (T.int IntKind.i64 h.1).toI then
  bif (atL Rm.cs l x32.toNat 1).toI == (T.int IntKind.i64 h.2).toI then true else false
else false then
   K .ret (ex_ixRm_1_1 l h x32)
  else
  K .normal (st_ixRm_1 l h (IntKind.i64.wrap (x32 + 1)))
 else
 K (.exit 0) (ex_ixRm_1_2 l h x32)) := by kernel_rfl
theorem post_ixRm_1_1 (l : List Rm) (h : Hd) (x32 : Int) (n : Nat) : contAt prog (tabS [(i_RoomOf1, e_RoomOf1)]) kp_ixRm F_ixRm ts_ixRm [1, 0, 1, 0] [] n .ret (ex_ixRm_1_1 l h x32) = (
 some ([(false, [.tr true (T.int IntKind.i64 x32)])], [(false, []), (false, [])])) := by kernel_rfl
theorem post_ixRm_1_2 (l : List Rm) (h : Hd) (x32 : Int) (n : Nat) : contAt prog (tabS [(i_RoomOf1, e_RoomOf1)]) kp_ixRm F_ixRm ts_ixRm [1, 0, 1, 0] [] n (.exit 0) (ex_ixRm_1_2 l h x32) = (
 some ([(false, [.tr true (T.int IntKind.i64 (-1))])], [(false, []), (false, [])])) := by kernel_rfl
theorem pre_ixRm (l : List Rm) (h : Hd) (n : Nat) : body prog (tabS [(i_RoomOf1, e_RoomOf1)]) kp_ixRm n F_ixRm [aT (eL 11 Rm.cs l), aF i_RoomOf1 h.cs] = (
 loopAt prog (tabS [(i_RoomOf1, e_RoomOf1)]) kp_ixRm F_ixRm [1, 0, 1, 0] n n (st_ixRm_1 l h (0)) (contAt prog (tabS [(i_RoomOf1, e_RoomOf1)]) kp_ixRm F_ixRm ts_ixRm [1, 0, 1, 0] [] n)) := by kernel_rfl
theorem body_ixRm (l : List Rm) (h : Hd) (h0 : ok_ixRm (l, h)) : body prog (tabS [(i_RoomOf1, e_RoomOf1)]) kp_ixRm (l.length + 1) F_ixRm (ea_ixRm (l, h)) = some (erI 2 (f_ixRm (l, h))) := by
  have hlm := lm
  have hl : l.length ≤ LM := h0
  unfold ea_ixRm f_ixRm
  try dsimp only
  rw [pre_ixRm]
  have hst : st_ixRm_1 l h 0 = (fun i : Nat => st_ixRm_1 l h (i : Nat)) 0 := rfl
  rw [hst, forExit l.length (fun i : Nat => st_ixRm_1 l h (i : Nat)) (ex_ixRm_1_2 l h l.length) 0 (fun i => decide (l[i]?.map Rm.h = some h)) .ret (fun e => by cases e) (fun i : Nat => ex_ixRm_1_1 l h (i : Nat)) (fun i K hi => ?_) (fun K => ?_) _ (Nat.le_refl _)]
  · unfold rof
    cases (List.range l.length).find? (fun i => decide (l[i]?.map Rm.h = some h)) with
    | none => exact (post_ixRm_1_2 l h _ _).trans rfl
    | some i => exact (post_ixRm_1_1 l h _ _).trans rfl
  · have hx := List.getElem?_eq_getElem hi
    rw [round_ixRm_1]
    simp (disch := omega) only [lt_d, ge0_d, Int.toNat_natCast, blt_d, ble_self, beq_self, decide_true, cond_true, Bool.and_self, Bool.and_true, Bool.true_and, gd_true, Nat.zero_add, List.getD_cons_zero, List.getD_cons_succ, isI_int, toI_int, isB_bool, toB_bool, eL_T, arr_ln, arr_fn, arr_wd, arr_is, arr_get, hi, atL_of hx, hx, Option.map_some, Rm.cs, wrapS, int_eq, cond_tf, cond_bf, Bool.and_true, dec_and, hd_eq]
  · rw [round_ixRm_1]
    simp only [lt_d, Nat.lt_irrefl, decide_false, cond_false]
theorem s_ixRm : EntOk prog i_ixRm e_ixRm := ent_ok ea_ixRm_inj fun x hx =>
  body_sound (φ := (tabS [(i_RoomOf1, e_RoomOf1)])) (tabS_cons s_RoomOf1 tabS_nil) mixed (kp := kp_ixRm) (n := x.1.length + 1) func152 (c := bodyOf F_ixRm) (by kernel_rfl) (body_ixRm x.1 x.2 hx) (name_ok (by kernel_rfl))
def ok_sRoomOf (x : Ml × Hd) : Prop := x.1.rooms.length ≤ LM
def ea_sRoomOf (x : Ml × Hd) : List Arg := [aR x.1.cs, aR x.2.cs]
def f_sRoomOf (x : Ml × Hd) : Int := rof x.1.rooms x.2
noncomputable def e_sRoomOf : Ent := ent [] ok_sRoomOf ea_sRoomOf (erI 2) f_sRoomOf
theorem ea_sRoomOf_inj (x y : Ml × Hd) (h : ea_sRoomOf x = ea_sRoomOf y) : x = y := by
  obtain ⟨m1, h1⟩ := x
  obtain ⟨m2, h2⟩ := y
  simp only [ea_sRoomOf, List.cons.injEq, and_true, true_and] at h
  obtain ⟨e0, e1⟩ := h
  obtain rfl := Ml.cs_ext (aR_inj e0)
  obtain rfl := Hd.cs_ext (aR_inj e1)
  rfl
theorem dm_sRoomOf {m : Ml} {h : Hd} (h0 : ok_sRoomOf (m, h)) : dom ok_sRoomOf ea_sRoomOf [(0, true, [C.tr false (T.int IntKind.i64 m.c.chunks), C.tr false (T.int IntKind.i64 m.c.size), C.tr false (T.int IntKind.i64 m.c.slots), C.tr false (T.int IntKind.i64 m.c.tax), C.tr false (T.int IntKind.i64 m.c.slice), C.tr false (T.int IntKind.i64 m.c.gens), C.tr false (T.arr 11 m.rooms.length (atL Rm.cs m.rooms)), C.tr false (T.arr 1 m.log.length (atL rowI m.log))]), (0, true, [C.tr false (T.int IntKind.i64 h.slot), C.tr false (T.int IntKind.i64 h.gen)])] = true := dom_ea (ea := ea_sRoomOf) (x := (m, h)) h0
theorem iv_sRoomOf {m : Ml} {h : Hd} (h0 : ok_sRoomOf (m, h)) : inv ok_sRoomOf ea_sRoomOf [(0, true, [C.tr false (T.int IntKind.i64 m.c.chunks), C.tr false (T.int IntKind.i64 m.c.size), C.tr false (T.int IntKind.i64 m.c.slots), C.tr false (T.int IntKind.i64 m.c.tax), C.tr false (T.int IntKind.i64 m.c.slice), C.tr false (T.int IntKind.i64 m.c.gens), C.tr false (T.arr 11 m.rooms.length (atL Rm.cs m.rooms)), C.tr false (T.arr 1 m.log.length (atL rowI m.log))]), (0, true, [C.tr false (T.int IntKind.i64 h.slot), C.tr false (T.int IntKind.i64 h.gen)])] = (m, h) := inv_ea ea_sRoomOf_inj (x := (m, h)) h0
theorem d_sRoomOf (m : Ml) (h : Hd) : f_sRoomOf (m, h) = rof m.rooms h := rfl
def i_sRoomOf : Nat := 85
noncomputable abbrev F_sRoomOf : Func := f85
def kp_sRoomOf : List (Nat × List Nat) := [(0, [8, 9, 12, 13]), (1, [8, 9, 12, 13, 20]), (2, [8, 9, 12, 13, 20, 40]), (3, [8, 9, 12, 13, 20]), (4, [8, 9, 12, 13, 20, 80]), (5, [16]), (6, [16])]
def ts_sRoomOf : List Nat := [0, 0]
def st_sRoomOf_1 (m : Ml) (h : Hd) (x20 : Int) : St := [(8, ⟨z0, [(false, [(C.pt (Pt.ptr 9 0 [] 8 0 0))])]⟩), (9, ⟨z0, [(true, [.tr true (T.int IntKind.i64 m.c.1), .tr true (T.int IntKind.i64 m.c.2), .tr true (T.int IntKind.i64 m.c.3), .tr true (T.int IntKind.i64 m.c.4), .tr true (T.int IntKind.i64 m.c.5), .tr true (T.int IntKind.i64 m.c.6), .tr false (eL 11 Rm.cs m.2), .tr false (eL 1 rowI m.3)])]⟩), (12, ⟨z0, [(false, [(C.pt (Pt.ptr 13 0 [] 2 0 0))])]⟩), (13, ⟨z0, [(true, [.tr true (T.int IntKind.i64 h.1), .tr true (T.int IntKind.i64 h.2)])]⟩), (20, ⟨z0, [(false, [.tr true (T.int IntKind.i64 x20)])]⟩)]
def ex_sRoomOf_1_1 (m : Ml) (h : Hd) (x20 : Int) : St := [(16, ⟨z0, [(false, [.tr true (T.int IntKind.i64 x20)])]⟩)]
def ex_sRoomOf_1_2 (m : Ml) (h : Hd) (x20 : Int) : St := [(8, ⟨z0, [(false, [(C.pt (Pt.ptr 9 0 [] 8 0 0))])]⟩), (9, ⟨z0, [(true, [.tr true (T.int IntKind.i64 m.c.1), .tr true (T.int IntKind.i64 m.c.2), .tr true (T.int IntKind.i64 m.c.3), .tr true (T.int IntKind.i64 m.c.4), .tr true (T.int IntKind.i64 m.c.5), .tr true (T.int IntKind.i64 m.c.6), .tr false (eL 11 Rm.cs m.2), .tr false (eL 1 rowI m.3)])]⟩), (12, ⟨z0, [(false, [(C.pt (Pt.ptr 13 0 [] 2 0 0))])]⟩), (13, ⟨z0, [(true, [.tr true (T.int IntKind.i64 h.1), .tr true (T.int IntKind.i64 h.2)])]⟩), (20, ⟨z0, [(false, [.tr true (T.int IntKind.i64 x20)])]⟩), (40, ⟨z0, []⟩)]
theorem round_sRoomOf_1 (m : Ml) (h : Hd) (x20 : Int) (n : Nat) (K : Ex → St → Res) : roundAt prog (tabS []) kp_sRoomOf F_sRoomOf [1, 0, 1, 0] n (st_sRoomOf_1 m h x20) K = (
 bif decide (x20 < (↑m.2.length : Int)) then
  gd (decide (0 ≤ x20) && (x20.toNat.blt m.2.length && true)) <|
  gd (T.isI IntKind.i64 (atL Rm.cs m.2 x20.toNat 0) && T.isI IntKind.i64 (atL Rm.cs m.2 x20.toNat 1)) <|
  bif bif (atL Rm.cs m.2 x20.toNat 0).toI == h.1 then bif (atL Rm.cs m.2 x20.toNat 1).toI == h.2 then true else false
else false then
   K .ret (ex_sRoomOf_1_1 m h x20)
  else
  K .normal (st_sRoomOf_1 m h (IntKind.i64.wrap (x20 + 1)))
 else
 K (.exit 0) (ex_sRoomOf_1_2 m h x20)) := by kernel_rfl
theorem post_sRoomOf_1_1 (m : Ml) (h : Hd) (x20 : Int) (n : Nat) : contAt prog (tabS []) kp_sRoomOf F_sRoomOf ts_sRoomOf [1, 0, 1, 0] [] n .ret (ex_sRoomOf_1_1 m h x20) = (
 some ([(false, [.tr true (T.int IntKind.i64 x20)])], [(false, []), (false, [])])) := by kernel_rfl
theorem post_sRoomOf_1_2 (m : Ml) (h : Hd) (x20 : Int) (n : Nat) : contAt prog (tabS []) kp_sRoomOf F_sRoomOf ts_sRoomOf [1, 0, 1, 0] [] n (.exit 0) (ex_sRoomOf_1_2 m h x20) = (
 some ([(false, [.tr true (T.int IntKind.i64 (-1))])], [(false, []), (false, [])])) := by kernel_rfl
theorem pre_sRoomOf (m : Ml) (h : Hd) (n : Nat) : body prog (tabS []) kp_sRoomOf n F_sRoomOf [aR m.cs, aR h.cs] = (
 loopAt prog (tabS []) kp_sRoomOf F_sRoomOf [1, 0, 1, 0] n n (st_sRoomOf_1 m h (0)) (contAt prog (tabS []) kp_sRoomOf F_sRoomOf ts_sRoomOf [1, 0, 1, 0] [] n)) := by kernel_rfl
theorem body_sRoomOf (m : Ml) (h : Hd) (h0 : ok_sRoomOf (m, h)) : body prog (tabS []) kp_sRoomOf (m.rooms.length + 1) F_sRoomOf (ea_sRoomOf (m, h)) = some (erI 2 (f_sRoomOf (m, h))) := by
  have hlm := lm
  have hl : m.rooms.length ≤ LM := h0
  unfold ea_sRoomOf f_sRoomOf
  try dsimp only
  rw [pre_sRoomOf]
  have hst : st_sRoomOf_1 m h 0 = (fun i : Nat => st_sRoomOf_1 m h (i : Nat)) 0 := rfl
  rw [hst, forExit m.rooms.length (fun i : Nat => st_sRoomOf_1 m h (i : Nat)) (ex_sRoomOf_1_2 m h m.rooms.length) 0 (fun i => decide (m.rooms[i]?.map Rm.h = some h)) .ret (fun e => by cases e) (fun i : Nat => ex_sRoomOf_1_1 m h (i : Nat)) (fun i K hi => ?_) (fun K => ?_) _ (Nat.le_refl _)]
  · unfold rof
    cases (List.range m.rooms.length).find? (fun i => decide (m.rooms[i]?.map Rm.h = some h)) with
    | none => exact (post_sRoomOf_1_2 m h _ _).trans rfl
    | some i => exact (post_sRoomOf_1_1 m h _ _).trans rfl
  · have hx := List.getElem?_eq_getElem hi
    rw [round_sRoomOf_1]
    simp (disch := omega) only [lt_d, ge0_d, Int.toNat_natCast, blt_d, ble_self, beq_self, decide_true, cond_true, Bool.and_self, Bool.and_true, Bool.true_and, gd_true, Nat.zero_add, List.getD_cons_zero, List.getD_cons_succ, isI_int, toI_int, isB_bool, toB_bool, eL_T, arr_ln, arr_fn, arr_wd, arr_is, arr_get, hi, atL_of hx, hx, Option.map_some, Rm.cs, wrapS, int_eq, cond_tf, cond_bf, Bool.and_true, dec_and, hd_eq]
  · rw [round_sRoomOf_1]
    simp only [lt_d, Nat.lt_irrefl, decide_false, cond_false]
theorem s_sRoomOf : EntOk prog i_sRoomOf e_sRoomOf := ent_ok ea_sRoomOf_inj fun x hx =>
  body_sound (φ := (tabS [])) tabS_nil mixed (kp := kp_sRoomOf) (n := x.1.rooms.length + 1) func85 (c := bodyOf F_sRoomOf) (by kernel_rfl) (body_sRoomOf x.1 x.2 hx) (name_ok (by kernel_rfl))
def ok_iRoomOf (x : Ml × Hd) : Prop := x.1.rooms.length ≤ LM
def ea_iRoomOf (x : Ml × Hd) : List Arg := [aR x.1.cs, aR x.2.cs]
def f_iRoomOf (x : Ml × Hd) : Int := rof x.1.rooms x.2
noncomputable def e_iRoomOf : Ent := ent [] ok_iRoomOf ea_iRoomOf (erI 2) f_iRoomOf
theorem ea_iRoomOf_inj (x y : Ml × Hd) (h : ea_iRoomOf x = ea_iRoomOf y) : x = y := by
  obtain ⟨m1, h1⟩ := x
  obtain ⟨m2, h2⟩ := y
  simp only [ea_iRoomOf, List.cons.injEq, and_true, true_and] at h
  obtain ⟨e0, e1⟩ := h
  obtain rfl := Ml.cs_ext (aR_inj e0)
  obtain rfl := Hd.cs_ext (aR_inj e1)
  rfl
theorem dm_iRoomOf {m : Ml} {h : Hd} (h0 : ok_iRoomOf (m, h)) : dom ok_iRoomOf ea_iRoomOf [(0, true, [C.tr false (T.int IntKind.i64 m.c.chunks), C.tr false (T.int IntKind.i64 m.c.size), C.tr false (T.int IntKind.i64 m.c.slots), C.tr false (T.int IntKind.i64 m.c.tax), C.tr false (T.int IntKind.i64 m.c.slice), C.tr false (T.int IntKind.i64 m.c.gens), C.tr false (T.arr 11 m.rooms.length (atL Rm.cs m.rooms)), C.tr false (T.arr 1 m.log.length (atL rowI m.log))]), (0, true, [C.tr false (T.int IntKind.i64 h.slot), C.tr false (T.int IntKind.i64 h.gen)])] = true := dom_ea (ea := ea_iRoomOf) (x := (m, h)) h0
theorem iv_iRoomOf {m : Ml} {h : Hd} (h0 : ok_iRoomOf (m, h)) : inv ok_iRoomOf ea_iRoomOf [(0, true, [C.tr false (T.int IntKind.i64 m.c.chunks), C.tr false (T.int IntKind.i64 m.c.size), C.tr false (T.int IntKind.i64 m.c.slots), C.tr false (T.int IntKind.i64 m.c.tax), C.tr false (T.int IntKind.i64 m.c.slice), C.tr false (T.int IntKind.i64 m.c.gens), C.tr false (T.arr 11 m.rooms.length (atL Rm.cs m.rooms)), C.tr false (T.arr 1 m.log.length (atL rowI m.log))]), (0, true, [C.tr false (T.int IntKind.i64 h.slot), C.tr false (T.int IntKind.i64 h.gen)])] = (m, h) := inv_ea ea_iRoomOf_inj (x := (m, h)) h0
theorem d_iRoomOf (m : Ml) (h : Hd) : f_iRoomOf (m, h) = rof m.rooms h := rfl
def i_iRoomOf : Nat := 87
noncomputable abbrev F_iRoomOf : Func := f87
def kp_iRoomOf : List (Nat × List Nat) := [(0, [8, 9, 12, 13]), (1, [16])]
def ts_iRoomOf : List Nat := [0, 0]
theorem pre_iRoomOf (m : Ml) (h : Hd) (n : Nat) : body prog (tabS [(i_ixRm, e_ixRm)]) kp_iRoomOf n F_iRoomOf [aR m.cs, aR h.cs] = (
 gd (dom ok_ixRm ea_ixRm
  [(0, false, [C.tr false (eL 11 Rm.cs m.2)]),
    (0, false, [C.fn 153 [Pt.pim 2 (pimF [T.int IntKind.i64 h.1, T.int IntKind.i64 h.2])]])]) <|
 some ([(false, [.tr true (T.int IntKind.i64
  (f_ixRm
    (inv ok_ixRm ea_ixRm
      [(0, false, [C.tr false (eL 11 Rm.cs m.2)]),
        (0, false, [C.fn 153 [Pt.pim 2 (pimF [T.int IntKind.i64 h.1, T.int IntKind.i64 h.2])]])])))])], [(false, []), (false, [])])) := by kernel_rfl
theorem body_iRoomOf (m : Ml) (h : Hd) (n : Nat) (h0 : ok_iRoomOf (m, h)) : body prog (tabS [(i_ixRm, e_ixRm)]) kp_iRoomOf n F_iRoomOf (ea_iRoomOf (m, h)) = some (erI 2 (f_iRoomOf (m, h))) := by
  have c : ok_ixRm (m.rooms, h) := h0
  unfold ea_iRoomOf f_iRoomOf
  try dsimp only
  rw [pre_iRoomOf]
  simp only [eL_T, dm_ixRm c, iv_ixRm c, d_ixRm, gd_true]
  rfl
theorem s_iRoomOf : EntOk prog i_iRoomOf e_iRoomOf := ent_ok ea_iRoomOf_inj fun x hx =>
  body_sound (φ := (tabS [(i_ixRm, e_ixRm)])) (tabS_cons s_ixRm tabS_nil) mixed (kp := kp_iRoomOf) (n := 0) func87 (c := bodyOf F_iRoomOf) (by kernel_rfl) (body_iRoomOf x.1 x.2 (0) hx) (name_ok (by kernel_rfl))
end Go.Mach.F