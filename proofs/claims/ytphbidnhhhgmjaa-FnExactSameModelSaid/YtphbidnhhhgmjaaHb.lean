/- TakenBy. Conditions: none. -/
import Derived.Test.YtphbidnhhhgmjaaHa
set_option linter.all false
namespace Go.Mach.F
open Go Go.Mach Go.Proofs.Try
--=set_option maxRecDepth 100000
def tkn (l : List Rm) : Int := l.foldl (fun n r => IntKind.i64.wrap (n + r.chunks)) 0
theorem tkn_take {l : List Rm} {i : Nat} {x : Rm} (h : l[i]? = some x) : tkn (l.take (i + 1)) = IntKind.i64.wrap (tkn (l.take i) + x.chunks) := by
  unfold tkn
  rw [List.take_add_one, h, List.foldl_append]
  rfl
def ok_iTakenBy (x : Ml) : Prop := x.rooms.length ≤ LM
def ea_iTakenBy (x : Ml) : List Arg := [aR x.cs]
def f_iTakenBy (x : Ml) : Int := tkn x.rooms
noncomputable def e_iTakenBy : Ent := ent [] ok_iTakenBy ea_iTakenBy (erI 1) f_iTakenBy
theorem ea_iTakenBy_inj (x y : Ml) (h : ea_iTakenBy x = ea_iTakenBy y) : x = y := by
  simp only [ea_iTakenBy, List.cons.injEq, and_true, true_and] at h
  exact Ml.cs_ext (aR_inj h)
theorem dm_iTakenBy {m : Ml} (h : ok_iTakenBy m) : dom ok_iTakenBy ea_iTakenBy [(0, true, [C.tr false (T.int IntKind.i64 m.c.chunks), C.tr false (T.int IntKind.i64 m.c.size), C.tr false (T.int IntKind.i64 m.c.slots), C.tr false (T.int IntKind.i64 m.c.tax), C.tr false (T.int IntKind.i64 m.c.slice), C.tr false (T.int IntKind.i64 m.c.gens), C.tr false (T.arr 11 m.rooms.length (atL Rm.cs m.rooms)), C.tr false (T.arr 1 m.log.length (atL rowI m.log))])] = true := dom_ea (ea := ea_iTakenBy) (x := m) h
theorem iv_iTakenBy {m : Ml} (h : ok_iTakenBy m) : inv ok_iTakenBy ea_iTakenBy [(0, true, [C.tr false (T.int IntKind.i64 m.c.chunks), C.tr false (T.int IntKind.i64 m.c.size), C.tr false (T.int IntKind.i64 m.c.slots), C.tr false (T.int IntKind.i64 m.c.tax), C.tr false (T.int IntKind.i64 m.c.slice), C.tr false (T.int IntKind.i64 m.c.gens), C.tr false (T.arr 11 m.rooms.length (atL Rm.cs m.rooms)), C.tr false (T.arr 1 m.log.length (atL rowI m.log))])] = m := inv_ea ea_iTakenBy_inj (x := m) h
theorem d_iTakenBy (m : Ml) : f_iTakenBy m = tkn m.rooms := rfl
def i_iTakenBy : Nat := 33
noncomputable abbrev F_iTakenBy : Func := f33
def kp_iTakenBy : List (Nat × List Nat) := [(0, [4, 5]), (1, [4, 5, 12]), (2, [4, 5, 12, 24, 28, 32, 36]), (3, [4, 5, 12, 24, 28, 32, 36, 40]), (4, [4, 5, 12, 20, 21, 24, 28, 32, 36, 44, 48]), (5, [4, 5, 12, 24, 28, 32, 36]), (6, [4, 5, 12, 24, 28, 32, 36]), (7, [8])]
def ts_iTakenBy : List Nat := [0]
def st_iTakenBy_1 (m : Ml) (x12 : Int) (x36 : Int) : St := [(4, ⟨z0, [(false, [(C.pt (Pt.ptr 5 0 [] 8 0 0))])]⟩), (5, ⟨z0, [(true, [.tr true (T.int IntKind.i64 m.c.1), .tr true (T.int IntKind.i64 m.c.2), .tr true (T.int IntKind.i64 m.c.3), .tr true (T.int IntKind.i64 m.c.4), .tr true (T.int IntKind.i64 m.c.5), .tr true (T.int IntKind.i64 m.c.6), .tr false (eL 11 Rm.cs m.2), .tr false (eL 1 rowI m.3)])]⟩), (12, ⟨z0, [(false, [.tr true (T.int IntKind.i64 x12)])]⟩), (24, ⟨z0, [(false, [(C.pt (Pt.ptr 5 0 [] 8 0 6))])]⟩), (28, ⟨z0, [(false, [.tr false (eL 11 Rm.cs m.2)])]⟩), (32, ⟨z0, [(false, [.tr true (T.int IntKind.i64 (↑m.2.length : Int))])]⟩), (36, ⟨z0, [(false, [.tr true (T.int IntKind.i64 x36)])]⟩)]
def ex_iTakenBy_1_1 (m : Ml) (x12 : Int) (x36 : Int) : St := [(4, ⟨z0, [(false, [(C.pt (Pt.ptr 5 0 [] 8 0 0))])]⟩), (5, ⟨z0, [(true, [.tr true (T.int IntKind.i64 m.c.1), .tr true (T.int IntKind.i64 m.c.2), .tr true (T.int IntKind.i64 m.c.3), .tr true (T.int IntKind.i64 m.c.4), .tr true (T.int IntKind.i64 m.c.5), .tr true (T.int IntKind.i64 m.c.6), .tr false (eL 11 Rm.cs m.2), .tr false (eL 1 rowI m.3)])]⟩), (12, ⟨z0, [(false, [.tr true (T.int IntKind.i64 x12)])]⟩), (24, ⟨z0, [(false, [(C.pt (Pt.ptr 5 0 [] 8 0 6))])]⟩), (28, ⟨z0, [(false, [.tr false (eL 11 Rm.cs m.2)])]⟩), (32, ⟨z0, [(false, [.tr true (T.int IntKind.i64 (↑m.2.length : Int))])]⟩), (36, ⟨z0, [(false, [.tr true (T.int IntKind.i64 x36)])]⟩), (40, ⟨z0, []⟩)]
theorem round_iTakenBy_1 (m : Ml) (x12 : Int) (x36 : Int) (n : Nat) (K : Ex → St → Res) : roundAt prog (tabS []) kp_iTakenBy F_iTakenBy [1, 1, 0, 1, 0] n (st_iTakenBy_1 m x12 x36) K = (
 bif decide (x36 < (↑m.2.length : Int)) then
  gd (decide (0 ≤ x36) && (x36.toNat.blt m.2.length && true)) <|
  gd (T.isI IntKind.i64 (atL Rm.cs m.2 x36.toNat 0) && T.isI IntKind.i64 (atL Rm.cs m.2 x36.toNat 1) &&
                  T.isI IntKind.i64 (atL Rm.cs m.2 x36.toNat 2) &&
                T.isI IntKind.i64 (atL Rm.cs m.2 x36.toNat 3) &&
              ((atL Rm.cs m.2 x36.toNat 4).isArr && (atL Rm.cs m.2 x36.toNat 4).wd.beq 2) &&
            T.isI IntKind.i64 (atL Rm.cs m.2 x36.toNat 5) &&
          T.isI IntKind.i64 (atL Rm.cs m.2 x36.toNat 6) &&
        (atL Rm.cs m.2 x36.toNat 7).isB &&
      T.isI IntKind.i64 (atL Rm.cs m.2 x36.toNat 8) &&
    ((atL Rm.cs m.2 x36.toNat 9).isArr && (atL Rm.cs m.2 x36.toNat 9).wd.beq 1) &&
  ((atL Rm.cs m.2 x36.toNat 10).isArr && (atL Rm.cs m.2 x36.toNat 10).wd.beq 1)) <|
  K .normal (st_iTakenBy_1 m (IntKind.i64.wrap (x12 + (atL Rm.cs m.2 x36.toNat 6).toI)) (IntKind.i64.wrap (x36 + 1)))
 else
 K (.exit 0) (ex_iTakenBy_1_1 m x12 x36)) := by kernel_rfl
theorem post_iTakenBy_1_1 (m : Ml) (x12 : Int) (x36 : Int) (n : Nat) : contAt prog (tabS []) kp_iTakenBy F_iTakenBy ts_iTakenBy [1, 1, 0, 1, 0] [] n (.exit 0) (ex_iTakenBy_1_1 m x12 x36) = (
 some ([(false, [.tr true (T.int IntKind.i64 x12)])], [(false, [])])) := by kernel_rfl
theorem pre_iTakenBy (m : Ml) (n : Nat) : body prog (tabS []) kp_iTakenBy n F_iTakenBy [aR m.cs] = (
 loopAt prog (tabS []) kp_iTakenBy F_iTakenBy [1, 1, 0, 1, 0] n n (st_iTakenBy_1 m (0) (0)) (contAt prog (tabS []) kp_iTakenBy F_iTakenBy ts_iTakenBy [1, 1, 0, 1, 0] [] n)) := by kernel_rfl
theorem body_iTakenBy (m : Ml) (h : ok_iTakenBy m) : body prog (tabS []) kp_iTakenBy (m.rooms.length + 1) F_iTakenBy (ea_iTakenBy m) = some (erI 1 (f_iTakenBy m)) := by
  have hlm := lm
  have hl : m.rooms.length ≤ LM := h
  unfold ea_iTakenBy f_iTakenBy
  try dsimp only
  rw [pre_iTakenBy]
  have hst : st_iTakenBy_1 m 0 0 = (fun i : Nat => st_iTakenBy_1 m (tkn (m.rooms.take i)) (i : Nat)) 0 := rfl
  rw [hst, forLoop m.rooms.length (fun i : Nat => st_iTakenBy_1 m (tkn (m.rooms.take i)) (i : Nat)) (ex_iTakenBy_1_1 m (tkn m.rooms) m.rooms.length) 0 (fun i K hi => ?_) (fun K => ?_) _ (Nat.le_refl _)]
  · rw [post_iTakenBy_1_1]
    rfl
  · have hx := List.getElem?_eq_getElem hi
    rw [round_iTakenBy_1, tkn_take hx]
    simp (disch := omega) only [lt_d, ge0_d, Int.toNat_natCast, blt_d, ble_self, beq_self, decide_true, cond_true, Bool.and_self, Bool.and_true, Bool.true_and, gd_true, Nat.zero_add, List.getD_cons_zero, List.getD_cons_succ, isI_int, toI_int, isB_bool, toB_bool, eL_T, arr_ln, arr_fn, arr_wd, arr_is, arr_get, hi, atL_of hx, Rm.cs, wrapS]
  · rw [round_iTakenBy_1, List.take_length]
    simp only [lt_d, Nat.lt_irrefl, decide_false, cond_false]
theorem s_iTakenBy : EntOk prog i_iTakenBy e_iTakenBy := ent_ok ea_iTakenBy_inj fun x hx =>
  body_sound (φ := (tabS [])) tabS_nil mixed (kp := kp_iTakenBy) (n := x.rooms.length + 1) func33 (c := bodyOf F_iTakenBy) (by kernel_rfl) (body_iTakenBy x hx) (name_ok (by kernel_rfl))
def ok_sTakenBy (x : Ml) : Prop := x.rooms.length ≤ LM
def ea_sTakenBy (x : Ml) : List Arg := [aR x.cs]
def f_sTakenBy (x : Ml) : Int := tkn x.rooms
noncomputable def e_sTakenBy : Ent := ent [] ok_sTakenBy ea_sTakenBy (erI 1) f_sTakenBy
theorem ea_sTakenBy_inj (x y : Ml) (h : ea_sTakenBy x = ea_sTakenBy y) : x = y := by
  simp only [ea_sTakenBy, List.cons.injEq, and_true, true_and] at h
  exact Ml.cs_ext (aR_inj h)
theorem dm_sTakenBy {m : Ml} (h : ok_sTakenBy m) : dom ok_sTakenBy ea_sTakenBy [(0, true, [C.tr false (T.int IntKind.i64 m.c.chunks), C.tr false (T.int IntKind.i64 m.c.size), C.tr false (T.int IntKind.i64 m.c.slots), C.tr false (T.int IntKind.i64 m.c.tax), C.tr false (T.int IntKind.i64 m.c.slice), C.tr false (T.int IntKind.i64 m.c.gens), C.tr false (T.arr 11 m.rooms.length (atL Rm.cs m.rooms)), C.tr false (T.arr 1 m.log.length (atL rowI m.log))])] = true := dom_ea (ea := ea_sTakenBy) (x := m) h
theorem iv_sTakenBy {m : Ml} (h : ok_sTakenBy m) : inv ok_sTakenBy ea_sTakenBy [(0, true, [C.tr false (T.int IntKind.i64 m.c.chunks), C.tr false (T.int IntKind.i64 m.c.size), C.tr false (T.int IntKind.i64 m.c.slots), C.tr false (T.int IntKind.i64 m.c.tax), C.tr false (T.int IntKind.i64 m.c.slice), C.tr false (T.int IntKind.i64 m.c.gens), C.tr false (T.arr 11 m.rooms.length (atL Rm.cs m.rooms)), C.tr false (T.arr 1 m.log.length (atL rowI m.log))])] = m := inv_ea ea_sTakenBy_inj (x := m) h
theorem d_sTakenBy (m : Ml) : f_sTakenBy m = tkn m.rooms := rfl
def i_sTakenBy : Nat := 31
noncomputable abbrev F_sTakenBy : Func := f31
def kp_sTakenBy : List (Nat × List Nat) := [(0, [4, 5]), (1, [4, 5, 12]), (2, [4, 5, 12, 16]), (3, [4, 5, 12, 16, 36]), (4, [4, 5, 12, 16]), (5, [4, 5, 12, 16]), (6, [8])]
def ts_sTakenBy : List Nat := [0]
def st_sTakenBy_1 (m : Ml) (x12 : Int) (x16 : Int) : St := [(4, ⟨z0, [(false, [(C.pt (Pt.ptr 5 0 [] 8 0 0))])]⟩), (5, ⟨z0, [(true, [.tr true (T.int IntKind.i64 m.c.1), .tr true (T.int IntKind.i64 m.c.2), .tr true (T.int IntKind.i64 m.c.3), .tr true (T.int IntKind.i64 m.c.4), .tr true (T.int IntKind.i64 m.c.5), .tr true (T.int IntKind.i64 m.c.6), .tr false (eL 11 Rm.cs m.2), .tr false (eL 1 rowI m.3)])]⟩), (12, ⟨z0, [(false, [.tr true (T.int IntKind.i64 x12)])]⟩), (16, ⟨z0, [(false, [.tr true (T.int IntKind.i64 x16)])]⟩)]
def ex_sTakenBy_1_1 (m : Ml) (x12 : Int) (x16 : Int) : St := [(4, ⟨z0, [(false, [(C.pt (Pt.ptr 5 0 [] 8 0 0))])]⟩), (5, ⟨z0, [(true, [.tr true (T.int IntKind.i64 m.c.1), .tr true (T.int IntKind.i64 m.c.2), .tr true (T.int IntKind.i64 m.c.3), .tr true (T.int IntKind.i64 m.c.4), .tr true (T.int IntKind.i64 m.c.5), .tr true (T.int IntKind.i64 m.c.6), .tr false (eL 11 Rm.cs m.2), .tr false (eL 1 rowI m.3)])]⟩), (12, ⟨z0, [(false, [.tr true (T.int IntKind.i64 x12)])]⟩), (16, ⟨z0, [(false, [.tr true (T.int IntKind.i64 x16)])]⟩), (36, ⟨z0, []⟩)]
theorem round_sTakenBy_1 (m : Ml) (x12 : Int) (x16 : Int) (n : Nat) (K : Ex → St → Res) : roundAt prog (tabS []) kp_sTakenBy F_sTakenBy [1, 1, 0, 1, 0] n (st_sTakenBy_1 m x12 x16) K = (
 bif decide (x16 < (↑m.2.length : Int)) then
  gd (decide (0 ≤ x16) && (x16.toNat.blt m.2.length && true)) <|
  gd (T.isI IntKind.i64 (atL Rm.cs m.2 x16.toNat 6)) <|
  K .normal (st_sTakenBy_1 m (IntKind.i64.wrap (x12 + (atL Rm.cs m.2 x16.toNat 6).toI)) (IntKind.i64.wrap (x16 + 1)))
 else
 K (.exit 0) (ex_sTakenBy_1_1 m x12 x16)) := by kernel_rfl
theorem post_sTakenBy_1_1 (m : Ml) (x12 : Int) (x16 : Int) (n : Nat) : contAt prog (tabS []) kp_sTakenBy F_sTakenBy ts_sTakenBy [1, 1, 0, 1, 0] [] n (.exit 0) (ex_sTakenBy_1_1 m x12 x16) = (
 some ([(false, [.tr true (T.int IntKind.i64 x12)])], [(false, [])])) := by kernel_rfl
theorem pre_sTakenBy (m : Ml) (n : Nat) : body prog (tabS []) kp_sTakenBy n F_sTakenBy [aR m.cs] = (
 loopAt prog (tabS []) kp_sTakenBy F_sTakenBy [1, 1, 0, 1, 0] n n (st_sTakenBy_1 m (0) (0)) (contAt prog (tabS []) kp_sTakenBy F_sTakenBy ts_sTakenBy [1, 1, 0, 1, 0] [] n)) := by kernel_rfl
theorem body_sTakenBy (m : Ml) (h : ok_sTakenBy m) : body prog (tabS []) kp_sTakenBy (m.rooms.length + 1) F_sTakenBy (ea_sTakenBy m) = some (erI 1 (f_sTakenBy m)) := by
  have hlm := lm
  have hl : m.rooms.length ≤ LM := h
  unfold ea_sTakenBy f_sTakenBy
  try dsimp only
  rw [pre_sTakenBy]
  have hst : st_sTakenBy_1 m 0 0 = (fun i : Nat => st_sTakenBy_1 m (tkn (m.rooms.take i)) (i : Nat)) 0 := rfl
  rw [hst, forLoop m.rooms.length (fun i : Nat => st_sTakenBy_1 m (tkn (m.rooms.take i)) (i : Nat)) (ex_sTakenBy_1_1 m (tkn m.rooms) m.rooms.length) 0 (fun i K hi => ?_) (fun K => ?_) _ (Nat.le_refl _)]
  · rw [post_sTakenBy_1_1]
    rfl
  · have hx := List.getElem?_eq_getElem hi
    rw [round_sTakenBy_1, tkn_take hx]
    simp (disch := omega) only [lt_d, ge0_d, Int.toNat_natCast, blt_d, ble_self, beq_self, decide_true, cond_true, Bool.and_self, Bool.and_true, Bool.true_and, gd_true, Nat.zero_add, List.getD_cons_zero, List.getD_cons_succ, isI_int, toI_int, isB_bool, toB_bool, eL_T, arr_ln, arr_fn, arr_wd, arr_is, arr_get, hi, atL_of hx, Rm.cs, wrapS]
  · rw [round_sTakenBy_1, List.take_length]
    simp only [lt_d, Nat.lt_irrefl, decide_false, cond_false]
theorem s_sTakenBy : EntOk prog i_sTakenBy e_sTakenBy := ent_ok ea_sTakenBy_inj fun x hx =>
  body_sound (φ := (tabS [])) tabS_nil mixed (kp := kp_sTakenBy) (n := x.rooms.length + 1) func31 (c := bodyOf F_sTakenBy) (by kernel_rfl) (body_sTakenBy x hx) (name_ok (by kernel_rfl))
end Go.Mach.F