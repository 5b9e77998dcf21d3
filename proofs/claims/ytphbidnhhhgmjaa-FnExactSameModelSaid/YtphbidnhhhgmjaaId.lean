/- DeepIn. Conditions: none. -/
import Derived.Test.YtphbidnhhhgmjaaIa
set_option linter.all false
namespace Go.Mach.F
open Go Go.Mach Go.Proofs.Try
--=set_option maxRecDepth 100000
def dpn (l : List Rm) : Nat → Hd → Nat
  | 0, _ => 0
  | n + 1, h => match l[(rof l h).toNat]? with
    | some x => bif decide (0 ≤ rof l h) then dpn l n x.up + 1 else 0
    | none => 0
theorem rof_lt {l : List Rm} {h : Hd} (e : 0 ≤ rof l h) : (rof l h).toNat < l.length := by
  unfold rof at e ⊢
  cases hf : (List.range l.length).find? (fun i => decide (l[i]?.map Rm.h = some h)) with
  | none => rw [hf] at e; simp at e
  | some i =>
    have := List.mem_of_find?_eq_some hf
    simpa using this
def ok_sDeepIn (x : Ml × Hd) : Prop := x.1.rooms.length ≤ LM
def ea_sDeepIn (x : Ml × Hd) : List Arg := [aR x.1.cs, aR x.2.cs]
def f_sDeepIn (x : Ml × Hd) : Int := ((dpn x.1.rooms x.1.rooms.length x.2 : Nat) : Int)
noncomputable def e_sDeepIn : Ent := ent [] ok_sDeepIn ea_sDeepIn (erI 2) f_sDeepIn
theorem ea_sDeepIn_inj (x y : Ml × Hd) (h : ea_sDeepIn x = ea_sDeepIn y) : x = y := by
  obtain ⟨m1, h1⟩ := x
  obtain ⟨m2, h2⟩ := y
  simp only [ea_sDeepIn, List.cons.injEq, and_true, true_and] at h
  obtain ⟨e0, e1⟩ := h
  obtain rfl := Ml.cs_ext (aR_inj e0)
  obtain rfl := Hd.cs_ext (aR_inj e1)
  rfl
theorem dm_sDeepIn {m : Ml} {h : Hd} (h0 : ok_sDeepIn (m, h)) : dom ok_sDeepIn ea_sDeepIn [(0, true, [C.tr false (T.int IntKind.i64 m.c.chunks), C.tr false (T.int IntKind.i64 m.c.size), C.tr false (T.int IntKind.i64 m.c.slots), C.tr false (T.int IntKind.i64 m.c.tax), C.tr false (T.int IntKind.i64 m.c.slice), C.tr false (T.int IntKind.i64 m.c.gens), C.tr false (T.arr 11 m.rooms.length (atL Rm.cs m.rooms)), C.tr false (T.arr 1 m.log.length (atL rowI m.log))]), (0, true, [C.tr false (T.int IntKind.i64 h.slot), C.tr false (T.int IntKind.i64 h.gen)])] = true := dom_ea (ea := ea_sDeepIn) (x := (m, h)) h0
theorem iv_sDeepIn {m : Ml} {h : Hd} (h0 : ok_sDeepIn (m, h)) : inv ok_sDeepIn ea_sDeepIn [(0, true, [C.tr false (T.int IntKind.i64 m.c.chunks), C.tr false (T.int IntKind.i64 m.c.size), C.tr false (T.int IntKind.i64 m.c.slots), C.tr false (T.int IntKind.i64 m.c.tax), C.tr false (T.int IntKind.i64 m.c.slice), C.tr false (T.int IntKind.i64 m.c.gens), C.tr false (T.arr 11 m.rooms.length (atL Rm.cs m.rooms)), C.tr false (T.arr 1 m.log.length (atL rowI m.log))]), (0, true, [C.tr false (T.int IntKind.i64 h.slot), C.tr false (T.int IntKind.i64 h.gen)])] = (m, h) := inv_ea ea_sDeepIn_inj (x := (m, h)) h0
theorem d_sDeepIn (m : Ml) (h : Hd) : f_sDeepIn (m, h) = ((dpn m.rooms m.rooms.length h : Nat) : Int) := rfl
def i_sDeepIn : Nat := 37
noncomputable abbrev F_sDeepIn : Func := f37
def kp_sDeepIn : List (Nat × List Nat) := [(0, [8, 9, 12, 13]), (1, [8, 9, 12, 13, 20]), (2, [8, 9, 12, 13, 20, 44]), (3, [8, 9, 12, 13, 20, 24]), (4, [8, 9, 12, 13, 20, 24, 64]), (5, [16]), (6, [8, 9, 12, 13, 20, 24]), (7, [8, 9, 12, 13, 20]), (8, [16])]
def ts_sDeepIn : List Nat := [0, 0]
def st_sDeepIn_1 (m : Ml) (h : Hd) (x13_0 : Int) (x13_1 : Int) (x20 : Int) : St := [(8, ⟨z0, [(false, [(C.pt (Pt.ptr 9 0 [] 8 0 0))])]⟩), (9, ⟨z0, [(true, [.tr true (T.int IntKind.i64 m.c.1), .tr true (T.int IntKind.i64 m.c.2), .tr true (T.int IntKind.i64 m.c.3), .tr true (T.int IntKind.i64 m.c.4), .tr true (T.int IntKind.i64 m.c.5), .tr true (T.int IntKind.i64 m.c.6), .tr false (eL 11 Rm.cs m.2), .tr false (eL 1 rowI m.3)])]⟩), (12, ⟨z0, [(false, [(C.pt (Pt.ptr 13 0 [] 2 0 0))])]⟩), (13, ⟨z0, [(true, [.tr true (T.int IntKind.i64 x13_0), .tr true (T.int IntKind.i64 x13_1)])]⟩), (20, ⟨z0, [(false, [.tr true (T.int IntKind.i64 x20)])]⟩)]
def ex_sDeepIn_1_1 (m : Ml) (h : Hd) (x13_0 : Int) (x13_1 : Int) (x20 : Int) : St := [(16, ⟨z0, [(false, [.tr true (T.int IntKind.i64 x20)])]⟩)]
def ex_sDeepIn_1_2 (m : Ml) (h : Hd) (x13_0 : Int) (x13_1 : Int) (x20 : Int) : St := [(8, ⟨z0, [(false, [(C.pt (Pt.ptr 9 0 [] 8 0 0))])]⟩), (9, ⟨z0, [(true, [.tr true (T.int IntKind.i64 m.c.1), .tr true (T.int IntKind.i64 m.c.2), .tr true (T.int IntKind.i64 m.c.3), .tr true (T.int IntKind.i64 m.c.4), .tr true (T.int IntKind.i64 m.c.5), .tr true (T.int IntKind.i64 m.c.6), .tr false (eL 11 Rm.cs m.2), .tr false (eL 1 rowI m.3)])]⟩), (12, ⟨z0, [(false, [(C.pt (Pt.ptr 13 0 [] 2 0 0))])]⟩), (13, ⟨z0, [(true, [.tr true (T.int IntKind.i64 x13_0), .tr true (T.int IntKind.i64 x13_1)])]⟩), (20, ⟨z0, [(false, [.tr true (T.int IntKind.i64 x20)])]⟩), (44, ⟨z0, []⟩)]
theorem round_sDeepIn_1 (m : Ml) (h : Hd) (x13_0 : Int) (x13_1 : Int) (x20 : Int) (n : Nat) (K : Ex → St → Res) : roundAt prog (tabS [(i_sRoomOf, e_sRoomOf)]) kp_sDeepIn F_sDeepIn [1, 1, 0, 0] n (st_sDeepIn_1 m h x13_0 x13_1 x20) K = (
 bif decide (x20 < (↑m.2.length : Int)) then
  gd (dom ok_sRoomOf ea_sRoomOf
  [(0, true,
      [C.tr false (T.int IntKind.i64 m.c.1), C.tr false (T.int IntKind.i64 m.c.2),
        C.tr false (T.int IntKind.i64 m.c.3), C.tr false (T.int IntKind.i64 m.c.4),
        C.tr false (T.int IntKind.i64 m.c.5), C.tr false (T.int IntKind.i64 m.c.6), C.tr false (eL 11 Rm.cs m.2),
        C.tr false (eL 1 rowI m.3)]),
    (0, true, [C.tr false (T.int IntKind.i64 x13_0), C.tr false (T.int IntKind.i64 x13_1)])]) <|
  bif decide
  (f_sRoomOf
      (inv ok_sRoomOf ea_sRoomOf
        [(0, true,
            [C.tr false (T.int IntKind.i64 m.c.1), C.tr false (T.int IntKind.i64 m.c.2),
              C.tr false (T.int IntKind.i64 m.c.3), C.tr false (T.int IntKind.i64 m.c.4),
              C.tr false (T.int IntKind.i64 m.c.5), C.tr false (T.int IntKind.i64 m.c.6),
              C.tr false (eL 11 Rm.cs m.2), C.tr false (eL 1 rowI m.3)]),
          (0, true, [C.tr false (T.int IntKind.i64 x13_0), C.tr false (T.int IntKind.i64 x13_1)])]) <
    0) then
   K .ret (ex_sDeepIn_1_1 m h x13_0 x13_1 x20)
  else
  gd (decide
    (0 ≤
      f_sRoomOf
        (inv ok_sRoomOf ea_sRoomOf
          [(0, true,
              [C.tr false (T.int IntKind.i64 m.c.1), C.tr false (T.int IntKind.i64 m.c.2),
                C.tr false (T.int IntKind.i64 m.c.3), C.tr false (T.int IntKind.i64 m.c.4),
                C.tr false (T.int IntKind.i64 m.c.5), C.tr false (T.int IntKind.i64 m.c.6),
                C.tr false (eL 11 Rm.cs m.2), C.tr false (eL 1 rowI m.3)]),
            (0, true, [C.tr false (T.int IntKind.i64 x13_0), C.tr false (T.int IntKind.i64 x13_1)])])) &&
  ((f_sRoomOf
            (inv ok_sRoomOf ea_sRoomOf
              [(0, true,
                  [C.tr false (T.int IntKind.i64 m.c.1), C.tr false (T.int IntKind.i64 m.c.2),
                    C.tr false (T.int IntKind.i64 m.c.3), C.tr false (T.int IntKind.i64 m.c.4),
                    C.tr false (T.int IntKind.i64 m.c.5), C.tr false (T.int IntKind.i64 m.c.6),
                    C.tr false (eL 11 Rm.cs m.2), C.tr false (eL 1 rowI m.3)]),
                (0, true, [C.tr false (T.int IntKind.i64 x13_0), C.tr false (T.int IntKind.i64 x13_1)])])).toNat.blt
      m.2.length &&
    true)) <|
  gd (T.isI IntKind.i64
    (atL Rm.cs m.2
      (f_sRoomOf
          (inv ok_sRoomOf ea_sRoomOf
            [(0, true,
                [C.tr false (T.int IntKind.i64 m.c.1), C.tr false (T.int IntKind.i64 m.c.2),
                  C.tr false (T.int IntKind.i64 m.c.3), C.tr false (T.int IntKind.i64 m.c.4),
                  C.tr false (T.int IntKind.i64 m.c.5), C.tr false (T.int IntKind.i64 m.c.6),
                  C.tr false (eL 11 Rm.cs m.2), C.tr false (eL 1 rowI m.3)]),
              (0, true, [C.tr false (T.int IntKind.i64 x13_0), C.tr false (T.int IntKind.i64 x13_1)])])).toNat
      2) &&
  T.isI IntKind.i64
    (atL Rm.cs m.2
      (f_sRoomOf
          (inv ok_sRoomOf ea_sRoomOf
            [(0, true,
                [C.tr false (T.int IntKind.i64 m.c.1), C.tr false (T.int IntKind.i64 m.c.2),
                  C.tr false (T.int IntKind.i64 m.c.3), C.tr false (T.int IntKind.i64 m.c.4),
                  C.tr false (T.int IntKind.i64 m.c.5), C.tr false (T.int IntKind.i64 m.c.6),
                  C.tr false (eL 11 Rm.cs m.2), C.tr false (eL 1 rowI m.3)]),
              (0, true, [C.tr false (T.int IntKind.i64 x13_0), C.tr false (T.int IntKind.i64 x13_1)])])).toNat
      3)) <|
  K .normal (st_sDeepIn_1 m h ((atL Rm.cs m.2
    (f_sRoomOf
        (inv ok_sRoomOf ea_sRoomOf
          [(0, true,
              [C.tr false (T.int IntKind.i64 m.c.1), C.tr false (T.int IntKind.i64 m.c.2),
                C.tr false (T.int IntKind.i64 m.c.3), C.tr false (T.int IntKind.i64 m.c.4),
                C.tr false (T.int IntKind.i64 m.c.5), C.tr false (T.int IntKind.i64 m.c.6),
                C.tr false (eL 11 Rm.cs m.2), C.tr false (eL 1 rowI m.3)]),
            (0, true, [C.tr false (T.int IntKind.i64 x13_0), C.tr false (T.int IntKind.i64 x13_1)])])).toNat
    2).toI) ((atL Rm.cs m.2
    (f_sRoomOf
        (inv ok_sRoomOf ea_sRoomOf
          [(0, true,
              [C.tr false (T.int IntKind.i64 m.c.1), C.tr false (T.int IntKind.i64 m.c.2),
                C.tr false (T.int IntKind.i64 m.c.3), C.tr false (T.int IntKind.i64 m.c.4),
                C.tr false (T.int IntKind.i64 m.c.5), C.tr false (T.int IntKind.i64 m.c.6),
                C.tr false (eL 11 Rm.cs m.2), C.tr false (eL 1 rowI m.3)]),
            (0, true, [C.tr false (T.int IntKind.i64 x13_0), C.tr false (T.int IntKind.i64 x13_1)])])).toNat
    3).toI) (IntKind.i64.wrap (x20 + 1)))
 else
 K (.exit 0) (ex_sDeepIn_1_2 m h x13_0 x13_1 x20)) := by kernel_rfl
theorem post_sDeepIn_1_1 (m : Ml) (h : Hd) (x13_0 : Int) (x13_1 : Int) (x20 : Int) (n : Nat) : contAt prog (tabS [(i_sRoomOf, e_sRoomOf)]) kp_sDeepIn F_sDeepIn ts_sDeepIn [1, 1, 0, 0] [] n .ret (ex_sDeepIn_1_1 m h x13_0 x13_1 x20) = (
 some ([(false, [.tr true (T.int IntKind.i64 x20)])], [(false, []), (false, [])])) := by kernel_rfl
theorem post_sDeepIn_1_2 (m : Ml) (h : Hd) (x13_0 : Int) (x13_1 : Int) (x20 : Int) (n : Nat) : contAt prog (tabS [(i_sRoomOf, e_sRoomOf)]) kp_sDeepIn F_sDeepIn ts_sDeepIn [1, 1, 0, 0] [] n (.exit 0) (ex_sDeepIn_1_2 m h x13_0 x13_1 x20) = (
 some ([(false, [.tr true (T.int IntKind.i64 x20)])], [(false, []), (false, [])])) := by kernel_rfl
theorem pre_sDeepIn (m : Ml) (h : Hd) (n : Nat) : body prog (tabS [(i_sRoomOf, e_sRoomOf)]) kp_sDeepIn n F_sDeepIn [aR m.cs, aR h.cs] = (
 loopAt prog (tabS [(i_sRoomOf, e_sRoomOf)]) kp_sDeepIn F_sDeepIn [1, 1, 0, 0] n n (st_sDeepIn_1 m h (h.1) (h.2) (0)) (contAt prog (tabS [(i_sRoomOf, e_sRoomOf)]) kp_sDeepIn F_sDeepIn ts_sDeepIn [1, 1, 0, 0] [] n)) := by kernel_rfl
theorem loop_sDeepIn (m : Ml) (h0 : Hd) (hl : m.rooms.length ≤ LM) (n mm : Nat) : ∀ (k i : Nat) (h : Hd), i + k = m.rooms.length → loopAt prog (tabS [(i_sRoomOf, e_sRoomOf)]) kp_sDeepIn F_sDeepIn [1, 1, 0, 0] n (k + 1 + mm) (st_sDeepIn_1 m h0 h.slot h.gen (i : Nat)) (contAt prog (tabS [(i_sRoomOf, e_sRoomOf)]) kp_sDeepIn F_sDeepIn ts_sDeepIn [1, 1, 0, 0] [] n) = some (erI 2 ((i + dpn m.rooms k h : Nat) : Int)) := by
  have hlm := lm
  intro k
  induction k with
  | zero =>
    intro i h hi
    have e1 : 0 + 1 + mm = mm + 1 := by omega
    have e2 : i = m.rooms.length := by omega
    subst e2
    rw [e1, loopAt_succ, round_sDeepIn_1]
    simp only [lt_d, Nat.lt_irrefl, decide_false, cond_false]
    exact (post_sDeepIn_1_2 m h0 _ _ _ n).trans rfl
  | succ k ih =>
    intro i h hi
    have e1 : k + 1 + 1 + mm = (k + 1 + mm) + 1 := by omega
    have hi' : i < m.rooms.length := by omega
    rw [e1, loopAt_succ, round_sDeepIn_1]
    by_cases e : 0 ≤ rof m.rooms h
    · have hx := List.getElem?_eq_getElem (rof_lt e)
      obtain ⟨x, hxe⟩ : ∃ x, x = m.rooms[(rof m.rooms h).toNat]'(rof_lt e) := ⟨_, rfl⟩
      rw [← hxe] at hx
      have hb := rof_lt e
      have c : ok_sRoomOf (m, h) := hl
      have e' : ¬ rof m.rooms h < 0 := by omega
      simp (disch := omega) only [lt_d, ge0_d, Int.toNat_natCast, blt_d, ble_self, beq_self, decide_true, cond_true, Bool.and_self, Bool.and_true, Bool.true_and, gd_true, Nat.zero_add, List.getD_cons_zero, List.getD_cons_succ, isI_int, toI_int, isB_bool, toB_bool, eL_T, arr_ln, arr_fn, arr_wd, arr_is, arr_get, hi', dm_sRoomOf c, iv_sRoomOf c, d_sRoomOf, decide_eq_false e', cond_false, decide_eq_true e, blt_d, decide_eq_true hb, atL_of hx, Rm.cs, wrapS]
      have e3 : dpn m.rooms (k + 1) h = dpn m.rooms k x.up + 1 := by
        simp only [dpn, hx, decide_eq_true e, cond_true]
      rw [e3, show i + (dpn m.rooms k x.up + 1) = i + 1 + dpn m.rooms k x.up by omega]
      exact ih (i + 1) x.up (by omega)
    · have e' : rof m.rooms h < 0 := by omega
      have e3 : dpn m.rooms (k + 1) h = 0 := by
        unfold dpn
        cases m.rooms[(rof m.rooms h).toNat]? with
        | none => rfl
        | some x => simp only [decide_eq_false e, cond_false]
      rw [e3, Nat.add_zero]
      have c : ok_sRoomOf (m, h) := hl
      simp only [lt_d, ge0_d, Int.toNat_natCast, blt_d, ble_self, beq_self, decide_true, cond_true, Bool.and_self, Bool.and_true, Bool.true_and, gd_true, Nat.zero_add, List.getD_cons_zero, List.getD_cons_succ, isI_int, toI_int, isB_bool, toB_bool, eL_T, arr_ln, arr_fn, arr_wd, arr_is, arr_get, hi', dm_sRoomOf c, iv_sRoomOf c, d_sRoomOf, decide_eq_true e', decide_eq_false e, cond_true, cond_false]
      exact (post_sDeepIn_1_1 m h0 _ _ _ n).trans rfl
theorem body_sDeepIn (m : Ml) (h : Hd) (h0 : ok_sDeepIn (m, h)) : body prog (tabS [(i_sRoomOf, e_sRoomOf)]) kp_sDeepIn (m.rooms.length + 1) F_sDeepIn (ea_sDeepIn (m, h)) = some (erI 2 (f_sDeepIn (m, h))) := by
  have c : ok_sRoomOf (m, h) := h0
  unfold ea_sDeepIn f_sDeepIn
  try dsimp only
  rw [pre_sDeepIn]
  try simp only [eL_T, dm_sRoomOf c, iv_sRoomOf c, d_sRoomOf, gd_true]
  have := loop_sDeepIn m h h0 (m.rooms.length + 1) 0 m.rooms.length 0 h (by omega)
  rw [Nat.zero_add] at this
  exact this
theorem s_sDeepIn : EntOk prog i_sDeepIn e_sDeepIn := ent_ok ea_sDeepIn_inj fun x hx =>
  body_sound (φ := (tabS [(i_sRoomOf, e_sRoomOf)])) (tabS_cons s_sRoomOf tabS_nil) mixed (kp := kp_sDeepIn) (n := x.1.rooms.length + 1) func37 (c := bodyOf F_sDeepIn) (by kernel_rfl) (body_sDeepIn x.1 x.2 hx) (name_ok (by kernel_rfl))
def ok_iDeepIn (x : Ml × Hd) : Prop := x.1.rooms.length ≤ LM
def ea_iDeepIn (x : Ml × Hd) : List Arg := [aR x.1.cs, aR x.2.cs]
def f_iDeepIn (x : Ml × Hd) : Int := ((dpn x.1.rooms x.1.rooms.length x.2 : Nat) : Int)
noncomputable def e_iDeepIn : Ent := ent [] ok_iDeepIn ea_iDeepIn (erI 2) f_iDeepIn
theorem ea_iDeepIn_inj (x y : Ml × Hd) (h : ea_iDeepIn x = ea_iDeepIn y) : x = y := by
  obtain ⟨m1, h1⟩ := x
  obtain ⟨m2, h2⟩ := y
  simp only [ea_iDeepIn, List.cons.injEq, and_true, true_and] at h
  obtain ⟨e0, e1⟩ := h
  obtain rfl := Ml.cs_ext (aR_inj e0)
  obtain rfl := Hd.cs_ext (aR_inj e1)
  rfl
theorem dm_iDeepIn {m : Ml} {h : Hd} (h0 : ok_iDeepIn (m, h)) : dom ok_iDeepIn ea_iDeepIn [(0, true, [C.tr false (T.int IntKind.i64 m.c.chunks), C.tr false (T.int IntKind.i64 m.c.size), C.tr false (T.int IntKind.i64 m.c.slots), C.tr false (T.int IntKind.i64 m.c.tax), C.tr false (T.int IntKind.i64 m.c.slice), C.tr false (T.int IntKind.i64 m.c.gens), C.tr false (T.arr 11 m.rooms.length (atL Rm.cs m.rooms)), C.tr false (T.arr 1 m.log.length (atL rowI m.log))]), (0, true, [C.tr false (T.int IntKind.i64 h.slot), C.tr false (T.int IntKind.i64 h.gen)])] = true := dom_ea (ea := ea_iDeepIn) (x := (m, h)) h0
theorem iv_iDeepIn {m : Ml} {h : Hd} (h0 : ok_iDeepIn (m, h)) : inv ok_iDeepIn ea_iDeepIn [(0, true, [C.tr false (T.int IntKind.i64 m.c.chunks), C.tr false (T.int IntKind.i64 m.c.size), C.tr false (T.int IntKind.i64 m.c.slots), C.tr false (T.int IntKind.i64 m.c.tax), C.tr false (T.int IntKind.i64 m.c.slice), C.tr false (T.int IntKind.i64 m.c.gens), C.tr false (T.arr 11 m.rooms.length (atL Rm.cs m.rooms)), C.tr false (T.arr 1 m.log.length (atL rowI m.log))]), (0, true, [C.tr false (T.int IntKind.i64 h.slot), C.tr false (T.int IntKind.i64 h.gen)])] = (m, h) := inv_ea ea_iDeepIn_inj (x := (m, h)) h0
theorem d_iDeepIn (m : Ml) (h : Hd) : f_iDeepIn (m, h) = ((dpn m.rooms m.rooms.length h : Nat) : Int) := rfl
def i_iDeepIn : Nat := 38
noncomputable abbrev F_iDeepIn : Func := f38
def kp_iDeepIn : List (Nat × List Nat) := [(0, [8, 9, 12, 13]), (1, [8, 9, 12, 13, 20]), (2, [8, 9, 20, 24]), (3, [8, 9, 20, 24, 72]), (4, [8, 9, 20, 24]), (5, [8, 9, 20, 24]), (6, [16])]
def ts_iDeepIn : List Nat := [0, 0]
def st_iDeepIn_1 (m : Ml) (h : Hd) (x20 : Int) (x24 : Int) : St := [(8, ⟨z0, [(false, [(C.pt (Pt.ptr 9 0 [] 8 0 0))])]⟩), (9, ⟨z0, [(true, [.tr true (T.int IntKind.i64 m.c.1), .tr true (T.int IntKind.i64 m.c.2), .tr true (T.int IntKind.i64 m.c.3), .tr true (T.int IntKind.i64 m.c.4), .tr true (T.int IntKind.i64 m.c.5), .tr true (T.int IntKind.i64 m.c.6), .tr false (eL 11 Rm.cs m.2), .tr false (eL 1 rowI m.3)])]⟩), (20, ⟨z0, [(false, [.tr true (T.int IntKind.i64 x20)])]⟩), (24, ⟨z0, [(false, [.tr true (T.int IntKind.i64 x24)])]⟩)]
def ex_iDeepIn_1_1 (m : Ml) (h : Hd) (x20 : Int) (x24 : Int) : St := [(8, ⟨z0, [(false, [(C.pt (Pt.ptr 9 0 [] 8 0 0))])]⟩), (9, ⟨z0, [(true, [.tr true (T.int IntKind.i64 m.c.1), .tr true (T.int IntKind.i64 m.c.2), .tr true (T.int IntKind.i64 m.c.3), .tr true (T.int IntKind.i64 m.c.4), .tr true (T.int IntKind.i64 m.c.5), .tr true (T.int IntKind.i64 m.c.6), .tr false (eL 11 Rm.cs m.2), .tr false (eL 1 rowI m.3)])]⟩), (20, ⟨z0, [(false, [.tr true (T.int IntKind.i64 x20)])]⟩), (24, ⟨z0, [(false, [.tr true (T.int IntKind.i64 x24)])]⟩), (72, ⟨z0, []⟩)]
theorem round_iDeepIn_1 (m : Ml) (h : Hd) (x20 : Int) (x24 : Int) (n : Nat) (K : Ex → St → Res) : roundAt prog (tabS [(i_iRoomOf, e_iRoomOf)]) kp_iDeepIn F_iDeepIn [1, 1, 0, 1, 0] n (st_iDeepIn_1 m h x20 x24) K = (
 bif decide (0 ≤ x24) then
  bif decide (x20 < (↑m.2.length : Int)) then
   gd (decide (0 ≤ x24) && (x24.toNat.blt m.2.length && true)) <|
   gd (T.isI IntKind.i64 (atL Rm.cs m.2 x24.toNat 2) && T.isI IntKind.i64 (atL Rm.cs m.2 x24.toNat 3)) <|
   gd (dom ok_iRoomOf ea_iRoomOf
  [(0, true,
      [C.tr false (T.int IntKind.i64 m.c.1), C.tr false (T.int IntKind.i64 m.c.2),
        C.tr false (T.int IntKind.i64 m.c.3), C.tr false (T.int IntKind.i64 m.c.4),
        C.tr false (T.int IntKind.i64 m.c.5), C.tr false (T.int IntKind.i64 m.c.6), C.tr false (eL 11 Rm.cs m.2),
        C.tr false (eL 1 rowI m.3)]),
    (0, true,
      [C.tr false (T.int IntKind.i64 (atL Rm.cs m.2 x24.toNat 2).toI),
        C.tr false (T.int IntKind.i64 (atL Rm.cs m.2 x24.toNat 3).toI)])]) <|
   K .normal (st_iDeepIn_1 m h (IntKind.i64.wrap (x20 + 1)) (f_iRoomOf
  (inv ok_iRoomOf ea_iRoomOf
    [(0, true,
        [C.tr false (T.int IntKind.i64 m.c.1), C.tr false (T.int IntKind.i64 m.c.2),
          C.tr false (T.int IntKind.i64 m.c.3), C.tr false (T.int IntKind.i64 m.c.4),
          C.tr false (T.int IntKind.i64 m.c.5), C.tr false (T.int IntKind.i64 m.c.6), C.tr false (eL 11 Rm.cs m.2),
          C.tr false (eL 1 rowI m.3)]),
      (0, true,
        [C.tr false (T.int IntKind.i64 (atL Rm.cs m.2 x24.toNat 2).toI),
          C.tr false (T.int IntKind.i64 (atL Rm.cs m.2 x24.toNat 3).toI)])])))
  else
  K (.exit 0) (ex_iDeepIn_1_1 m h x20 x24)
 else
 K (.exit 0) (ex_iDeepIn_1_1 m h x20 x24)) := by kernel_rfl
theorem post_iDeepIn_1_1 (m : Ml) (h : Hd) (x20 : Int) (x24 : Int) (n : Nat) : contAt prog (tabS [(i_iRoomOf, e_iRoomOf)]) kp_iDeepIn F_iDeepIn ts_iDeepIn [1, 1, 0, 1, 0] [] n (.exit 0) (ex_iDeepIn_1_1 m h x20 x24) = (
 some ([(false, [.tr true (T.int IntKind.i64 x20)])], [(false, []), (false, [])])) := by kernel_rfl
theorem pre_iDeepIn (m : Ml) (h : Hd) (n : Nat) : body prog (tabS [(i_iRoomOf, e_iRoomOf)]) kp_iDeepIn n F_iDeepIn [aR m.cs, aR h.cs] = (
 gd (dom ok_iRoomOf ea_iRoomOf
  [(0, true,
      [C.tr false (T.int IntKind.i64 m.c.1), C.tr false (T.int IntKind.i64 m.c.2),
        C.tr false (T.int IntKind.i64 m.c.3), C.tr false (T.int IntKind.i64 m.c.4),
        C.tr false (T.int IntKind.i64 m.c.5), C.tr false (T.int IntKind.i64 m.c.6), C.tr false (eL 11 Rm.cs m.2),
        C.tr false (eL 1 rowI m.3)]),
    (0, true, [C.tr false (T.int IntKind.i64 h.1), C.tr false (T.int IntKind.i64 h.2)])]) <|
 loopAt prog (tabS [(i_iRoomOf, e_iRoomOf)]) kp_iDeepIn F_iDeepIn [1, 1, 0, 1, 0] n n (st_iDeepIn_1 m h (0) (f_iRoomOf
  (inv ok_iRoomOf ea_iRoomOf
    [(0, true,
        [C.tr false (T.int IntKind.i64 m.c.1), C.tr false (T.int IntKind.i64 m.c.2),
          C.tr false (T.int IntKind.i64 m.c.3), C.tr false (T.int IntKind.i64 m.c.4),
          C.tr false (T.int IntKind.i64 m.c.5), C.tr false (T.int IntKind.i64 m.c.6), C.tr false (eL 11 Rm.cs m.2),
          C.tr false (eL 1 rowI m.3)]),
      (0, true, [C.tr false (T.int IntKind.i64 h.1), C.tr false (T.int IntKind.i64 h.2)])]))) (contAt prog (tabS [(i_iRoomOf, e_iRoomOf)]) kp_iDeepIn F_iDeepIn ts_iDeepIn [1, 1, 0, 1, 0] [] n)) := by kernel_rfl
theorem loop_iDeepIn (m : Ml) (h0 : Hd) (hl : m.rooms.length ≤ LM) (n mm : Nat) : ∀ (k i : Nat) (h : Hd), i + k = m.rooms.length → loopAt prog (tabS [(i_iRoomOf, e_iRoomOf)]) kp_iDeepIn F_iDeepIn [1, 1, 0, 1, 0] n (k + 1 + mm) (st_iDeepIn_1 m h0 (i : Nat) (rof m.rooms h)) (contAt prog (tabS [(i_iRoomOf, e_iRoomOf)]) kp_iDeepIn F_iDeepIn ts_iDeepIn [1, 1, 0, 1, 0] [] n) = some (erI 2 ((i + dpn m.rooms k h : Nat) : Int)) := by
  have hlm := lm
  intro k
  induction k with
  | zero =>
    intro i h hi
    have e1 : 0 + 1 + mm = mm + 1 := by omega
    have e2 : i = m.rooms.length := by omega
    subst e2
    rw [e1, loopAt_succ, round_iDeepIn_1]
    simp only [lt_d, Nat.lt_irrefl, decide_false, cond_false]
    by_cases e : 0 ≤ rof m.rooms h
    · simp only [decide_eq_true e, cond_true]
      exact (post_iDeepIn_1_1 m h0 _ _ n).trans rfl
    · simp only [decide_eq_false e, cond_false]
      exact (post_iDeepIn_1_1 m h0 _ _ n).trans rfl
  | succ k ih =>
    intro i h hi
    have e1 : k + 1 + 1 + mm = (k + 1 + mm) + 1 := by omega
    have hi' : i < m.rooms.length := by omega
    rw [e1, loopAt_succ, round_iDeepIn_1]
    by_cases e : 0 ≤ rof m.rooms h
    · have hx := List.getElem?_eq_getElem (rof_lt e)
      obtain ⟨x, hxe⟩ : ∃ x, x = m.rooms[(rof m.rooms h).toNat]'(rof_lt e) := ⟨_, rfl⟩
      rw [← hxe] at hx
      have hb := rof_lt e
      have c : ok_iRoomOf (m, x.up) := hl
      have e' : ¬ rof m.rooms h < 0 := by omega
      simp (disch := omega) only [lt_d, ge0_d, Int.toNat_natCast, blt_d, ble_self, beq_self, decide_true, cond_true, Bool.and_self, Bool.and_true, Bool.true_and, gd_true, Nat.zero_add, List.getD_cons_zero, List.getD_cons_succ, isI_int, toI_int, isB_bool, toB_bool, eL_T, arr_ln, arr_fn, arr_wd, arr_is, arr_get, hi', dm_iRoomOf c, iv_iRoomOf c, d_iRoomOf, decide_eq_false e', cond_false, decide_eq_true e, blt_d, decide_eq_true hb, atL_of hx, Rm.cs, wrapS]
      have e3 : dpn m.rooms (k + 1) h = dpn m.rooms k x.up + 1 := by
        simp only [dpn, hx, decide_eq_true e, cond_true]
      rw [e3, show i + (dpn m.rooms k x.up + 1) = i + 1 + dpn m.rooms k x.up by omega]
      exact ih (i + 1) x.up (by omega)
    · have e' : rof m.rooms h < 0 := by omega
      have e3 : dpn m.rooms (k + 1) h = 0 := by
        unfold dpn
        cases m.rooms[(rof m.rooms h).toNat]? with
        | none => rfl
        | some x => simp only [decide_eq_false e, cond_false]
      rw [e3, Nat.add_zero]
      have c : ok_iRoomOf (m, h) := hl
      simp only [lt_d, ge0_d, Int.toNat_natCast, blt_d, ble_self, beq_self, decide_true, cond_true, Bool.and_self, Bool.and_true, Bool.true_and, gd_true, Nat.zero_add, List.getD_cons_zero, List.getD_cons_succ, isI_int, toI_int, isB_bool, toB_bool, eL_T, arr_ln, arr_fn, arr_wd, arr_is, arr_get, hi', dm_iRoomOf c, iv_iRoomOf c, d_iRoomOf, decide_eq_true e', decide_eq_false e, cond_true, cond_false]
      exact (post_iDeepIn_1_1 m h0 _ _ n).trans rfl
theorem body_iDeepIn (m : Ml) (h : Hd) (h0 : ok_iDeepIn (m, h)) : body prog (tabS [(i_iRoomOf, e_iRoomOf)]) kp_iDeepIn (m.rooms.length + 1) F_iDeepIn (ea_iDeepIn (m, h)) = some (erI 2 (f_iDeepIn (m, h))) := by
  have c : ok_iRoomOf (m, h) := h0
  unfold ea_iDeepIn f_iDeepIn
  try dsimp only
  rw [pre_iDeepIn]
  try simp only [eL_T, dm_iRoomOf c, iv_iRoomOf c, d_iRoomOf, gd_true]
  have := loop_iDeepIn m h h0 (m.rooms.length + 1) 0 m.rooms.length 0 h (by omega)
  rw [Nat.zero_add] at this
  exact this
theorem s_iDeepIn : EntOk prog i_iDeepIn e_iDeepIn := ent_ok ea_iDeepIn_inj fun x hx =>
  body_sound (φ := (tabS [(i_iRoomOf, e_iRoomOf)])) (tabS_cons s_iRoomOf tabS_nil) mixed (kp := kp_iDeepIn) (n := x.1.rooms.length + 1) func38 (c := bodyOf F_iDeepIn) (by kernel_rfl) (body_iDeepIn x.1 x.2 hx) (name_ok (by kernel_rfl))
end Go.Mach.F