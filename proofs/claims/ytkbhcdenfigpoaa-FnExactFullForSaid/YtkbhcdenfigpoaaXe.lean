/- RoomsIn. Conditions: none. -/
import Derived.Test.YtkbhcdenfigpoaaXd
set_option linter.all false
namespace Go.Mach.F
open Go Go.Mach Go.Proofs.Try
--=set_option maxRecDepth 100000
def rmsN (l : List Nd) : Nat → List Int
  | 0 => []
  | i + 1 => bif alv l i then rmsN l i ++ [(i : Int)] else rmsN l i
def rms (l : List Nd) : List Int := rmsN l l.length
theorem rmsN_len (l : List Nd) : ∀ i, (rmsN l i).length ≤ i
  | 0 => by simp [rmsN]
  | i + 1 => by
    have ih := rmsN_len l i
    unfold rmsN
    cases alv l i with
    | true => simp only [cond_true, List.length_append, List.length_cons, List.length_nil]; omega
    | false => simp only [cond_false]; omega
def ok_iRoomsIn (x : Wd) : Prop := x.l.length ≤ LM ∧ upI x.l
def ea_iRoomsIn (x : Wd) : List Arg := [aR x.cs]
def f_iRoomsIn (x : Wd) : List Int := rms x.l
noncomputable def e_iRoomsIn : Ent := ent [] ok_iRoomsIn ea_iRoomsIn (fun r => erT 1 (eI r)) f_iRoomsIn
theorem ea_iRoomsIn_inj (x y : Wd) (h : ea_iRoomsIn x = ea_iRoomsIn y) : x = y := by
  simp only [ea_iRoomsIn, List.cons.injEq, and_true, true_and] at h
  exact Wd.cs_ext (aR_inj h)
theorem dm_iRoomsIn {w : Wd} (h : ok_iRoomsIn w) : dom ok_iRoomsIn ea_iRoomsIn [(0, true, [C.tr false (T.int IntKind.i64 w.c.chunks), C.tr false (T.int IntKind.i64 w.c.size), C.tr false (T.int IntKind.i64 w.c.slots), C.tr false (T.int IntKind.i64 w.c.tax), C.tr false (T.int IntKind.i64 w.c.slice), C.tr false (T.int IntKind.i64 w.c.gens), C.tr false (T.arr 1 w.p.mem.length (atL rowB w.p.mem)), C.tr false (T.arr 1 w.p.st.length (atL rowI w.p.st)), C.tr false (T.arr 1 w.p.own.length (atL rowI w.p.own)), C.tr false (T.arr 13 w.l.length (atL Nd.cs w.l)), C.tr false (T.arr 5 w.q.length (atL Ws.cs w.q)), C.tr false (T.arr 1 w.log.length (atL rowI w.log))])] = true := dom_ea (ea := ea_iRoomsIn) (x := w) h
theorem iv_iRoomsIn {w : Wd} (h : ok_iRoomsIn w) : inv ok_iRoomsIn ea_iRoomsIn [(0, true, [C.tr false (T.int IntKind.i64 w.c.chunks), C.tr false (T.int IntKind.i64 w.c.size), C.tr false (T.int IntKind.i64 w.c.slots), C.tr false (T.int IntKind.i64 w.c.tax), C.tr false (T.int IntKind.i64 w.c.slice), C.tr false (T.int IntKind.i64 w.c.gens), C.tr false (T.arr 1 w.p.mem.length (atL rowB w.p.mem)), C.tr false (T.arr 1 w.p.st.length (atL rowI w.p.st)), C.tr false (T.arr 1 w.p.own.length (atL rowI w.p.own)), C.tr false (T.arr 13 w.l.length (atL Nd.cs w.l)), C.tr false (T.arr 5 w.q.length (atL Ws.cs w.q)), C.tr false (T.arr 1 w.log.length (atL rowI w.log))])] = w := inv_ea ea_iRoomsIn_inj (x := w) h
theorem d_iRoomsIn (w : Wd) : f_iRoomsIn w = rms w.l := rfl
def i_iRoomsIn : Nat := 84
noncomputable abbrev F_iRoomsIn : Func := f84
def kp_iRoomsIn : List (Nat × List Nat) := [(0, [4, 5]), (1, [4, 5, 12]), (2, [4, 5, 12, 32, 36]), (3, [4, 5, 12, 32, 36, 40]), (4, [4, 5, 12, 16, 32, 36]), (5, [4, 5, 12, 16, 32, 36, 60]), (6, [4, 5, 12, 32, 36]), (7, [4, 5, 12, 32, 36]), (8, [8])]
def ts_iRoomsIn : List Nat := [0]
def st_iRoomsIn_1 (w : Wd) (nx12 : Nat) (fx12 : Nat → Nat → T) (x36 : Int) : St := [(4, ⟨z0, [(false, [(C.pt (Pt.ptr 5 0 [] 12 0 0))])]⟩), (5, ⟨z0, [(true, [.tr true (T.int IntKind.i64 w.c.1), .tr true (T.int IntKind.i64 w.c.2), .tr true (T.int IntKind.i64 w.c.3), .tr true (T.int IntKind.i64 w.c.4), .tr true (T.int IntKind.i64 w.c.5), .tr true (T.int IntKind.i64 w.c.6), .tr false (eL 1 rowB w.p.1), .tr false (eL 1 rowI w.p.2), .tr false (eL 1 rowI w.p.3), .tr false (eL 13 Nd.cs w.3), .tr false (eL 5 Ws.cs w.4), .tr false (eL 1 rowI w.5)])]⟩), (12, ⟨z0, [(false, [.tr true (.arr (1) (nx12) (fx12))])]⟩), (32, ⟨z0, [(false, [.tr true (T.int IntKind.i64 (↑w.3.length : Int))])]⟩), (36, ⟨z0, [(false, [.tr true (T.int IntKind.i64 x36)])]⟩)]
def ex_iRoomsIn_1_1 (w : Wd) (nx12 : Nat) (fx12 : Nat → Nat → T) (x36 : Int) : St := [(4, ⟨z0, [(false, [(C.pt (Pt.ptr 5 0 [] 12 0 0))])]⟩), (5, ⟨z0, [(true, [.tr true (T.int IntKind.i64 w.c.1), .tr true (T.int IntKind.i64 w.c.2), .tr true (T.int IntKind.i64 w.c.3), .tr true (T.int IntKind.i64 w.c.4), .tr true (T.int IntKind.i64 w.c.5), .tr true (T.int IntKind.i64 w.c.6), .tr false (eL 1 rowB w.p.1), .tr false (eL 1 rowI w.p.2), .tr false (eL 1 rowI w.p.3), .tr false (eL 13 Nd.cs w.3), .tr false (eL 5 Ws.cs w.4), .tr false (eL 1 rowI w.5)])]⟩), (12, ⟨z0, [(false, [.tr true (.arr (1) (nx12) (fx12))])]⟩), (32, ⟨z0, [(false, [.tr true (T.int IntKind.i64 (↑w.3.length : Int))])]⟩), (36, ⟨z0, [(false, [.tr true (T.int IntKind.i64 x36)])]⟩), (40, ⟨z0, []⟩)]
theorem round_iRoomsIn_1 (w : Wd) (nx12 : Nat) (fx12 : Nat → Nat → T) (x36 : Int) (n : Nat) (K : Ex → St → Res) : roundAt prog (tabS [(i_iAlive, e_iAlive)]) kp_iRoomsIn F_iRoomsIn [1, 1, 0, 1, 0] n (st_iRoomsIn_1 w nx12 fx12 x36) K = (
 bif decide (x36 < (↑w.3.length : Int)) then
  entK ok_iAlive ea_iAlive (f_iAlive) [(0, false, [C.tr false (eL 13 Nd.cs w.3)]), (0, false, [C.tr false (T.int IntKind.i64 x36)])] fun (r1 : Bool) =>
  bif r1 then
   gd (nx12.ble nx12 && true) <|
   gd (((nx12 + 1) * 8).ble 70368744177664 && (nx12 + 1).ble 70368744177664) <|
   gd ((nx12 + 1).ble (nx12 + 1) && true) <|
   K .normal (st_iRoomsIn_1 w (nx12 + 1) (appF nx12 fx12
  (plainF
    (cutT 0 1 fun j k =>
      Option.rec ((fun _ => T.hole) ()) (fun val => (fun val => (fun x => x) val) val)
        ([[T.int IntKind.i64 x36]].getD j [])[k]?))) (IntKind.i64.wrap (x36 + 1)))
  else
  K .normal (st_iRoomsIn_1 w (nx12) (fx12) (IntKind.i64.wrap (x36 + 1)))
 else
 K (.exit 0) (ex_iRoomsIn_1_1 w nx12 fx12 x36)) := by kernel_rfl
theorem post_iRoomsIn_1_1 (w : Wd) (nx12 : Nat) (fx12 : Nat → Nat → T) (x36 : Int) (n : Nat) : contAt prog (tabS [(i_iAlive, e_iAlive)]) kp_iRoomsIn F_iRoomsIn ts_iRoomsIn [1, 1, 0, 1, 0] [] n (.exit 0) (ex_iRoomsIn_1_1 w nx12 fx12 x36) = (
 gd (nx12.ble nx12 && true) <|
 gd (nx12.ble nx12 && true) <|
 some ([(false, [.tr true (.arr (1) (nx12) (fx12))])], [(false, [])])) := by kernel_rfl
theorem pre_iRoomsIn (w : Wd) (n : Nat) : body prog (tabS [(i_iAlive, e_iAlive)]) kp_iRoomsIn n F_iRoomsIn [aR w.cs] = (
 loopAt prog (tabS [(i_iAlive, e_iAlive)]) kp_iRoomsIn F_iRoomsIn [1, 1, 0, 1, 0] n n (st_iRoomsIn_1 w (0) (fun j k => T.hole) (0)) (contAt prog (tabS [(i_iAlive, e_iAlive)]) kp_iRoomsIn F_iRoomsIn ts_iRoomsIn [1, 1, 0, 1, 0] [] n)) := by kernel_rfl
theorem body_iRoomsIn (w : Wd) (h : ok_iRoomsIn w) : body prog (tabS [(i_iAlive, e_iAlive)]) kp_iRoomsIn (w.l.length + 1) F_iRoomsIn (ea_iRoomsIn w) = some (erT 1 (eI (f_iRoomsIn w))) := by
  have hlm := lm
  obtain ⟨hl, hu⟩ : w.l.length ≤ LM ∧ upI w.l := h
  unfold ea_iRoomsIn f_iRoomsIn
  try dsimp only
  rw [pre_iRoomsIn]
  obtain ⟨g, hg⟩ : ∃ g, g = rmsN w.l := ⟨_, rfl⟩
  have hgl : ∀ i, (g i).length ≤ i := fun i => by rw [hg]; exact rmsN_len _ i
  have hst : st_iRoomsIn_1 w 0 (fun j k => T.hole) 0 = (fun i : Nat => st_iRoomsIn_1 w (g i).length (atL rowI (g i)) (i : Nat)) 0 := by
    rw [hg]
    rfl
  rw [hst, forLoop w.l.length (fun i : Nat => st_iRoomsIn_1 w (g i).length (atL rowI (g i)) (i : Nat)) (ex_iRoomsIn_1_1 w (g w.l.length).length (atL rowI (g w.l.length)) w.l.length) 0 (fun i K hi => ?_) (fun K => ?_) _ (by omega)]
  · rw [post_iRoomsIn_1_1]
    simp only [ble_d, Nat.le_refl, decide_true, Bool.and_true, gd_true]
    rw [hg]
    rfl
  · have e : g (i + 1) = bif alv w.l i then g i ++ [(i : Int)] else g i := by
      rw [hg]
      rfl
    have hl := hgl i
    rw [round_iRoomsIn_1]
    have hs : ((g i).length + 1) * 8 ≤ 70368744177664 := by omega
    have hs2 : (g i).length + 1 ≤ 70368744177664 := by omega
    have c0 : ok_iAlive (w.l, (i : Int)) := ⟨by dsimp only; omega, by dsimp only; unfold inI; omega, hu⟩
    simp (disch := omega) only [lt_d, ge0_d, Int.toNat_natCast, blt_d, ble_self, beq_self, decide_true, cond_true, Bool.and_self, Bool.and_true, Bool.true_and, gd_true, Nat.zero_add, List.getD_cons_zero, List.getD_cons_succ, isI_int, toI_int, isB_bool, toB_bool, eL_T, arr_ln, arr_fn, arr_wd, arr_is, arr_get, eL_T, cut_all, ble_d, Nat.le_refl, hi, hs, hs2, rowI, wrapS, int_eq, entK_of (dm_iAlive c0) (iv_iAlive c0), d_iAlive]
    rw [e]
    cases alv w.l i with
    | true =>
      simp only [cond_true]
      refine congrArg (K .normal) ?_
      have ha := app1 (g i) (i : Int)
      rw [← ha, List.length_append]
      simp only [row1]
      rfl
    | false => rfl
  · rw [round_iRoomsIn_1]
    simp only [lt_d, Nat.lt_irrefl, decide_false, cond_false]
theorem s_iRoomsIn : EntOk prog i_iRoomsIn e_iRoomsIn := ent_ok ea_iRoomsIn_inj fun x hx =>
  body_sound (φ := (tabS [(i_iAlive, e_iAlive)])) (tabS_cons s_iAlive tabS_nil) mixed (kp := kp_iRoomsIn) (n := x.l.length + 1) func84 (c := bodyOf F_iRoomsIn) (by kernel_rfl) (body_iRoomsIn x hx) (name_ok (by kernel_rfl))
def ok_sRoomsIn (x : Wd) : Prop := x.l.length ≤ LM ∧ upI x.l
def ea_sRoomsIn (x : Wd) : List Arg := [aR x.cs]
def f_sRoomsIn (x : Wd) : List Int := rms x.l
noncomputable def e_sRoomsIn : Ent := ent [] ok_sRoomsIn ea_sRoomsIn (fun r => erT 1 (eI r)) f_sRoomsIn
theorem ea_sRoomsIn_inj (x y : Wd) (h : ea_sRoomsIn x = ea_sRoomsIn y) : x = y := by
  simp only [ea_sRoomsIn, List.cons.injEq, and_true, true_and] at h
  exact Wd.cs_ext (aR_inj h)
theorem dm_sRoomsIn {w : Wd} (h : ok_sRoomsIn w) : dom ok_sRoomsIn ea_sRoomsIn [(0, true, [C.tr false (T.int IntKind.i64 w.c.chunks), C.tr false (T.int IntKind.i64 w.c.size), C.tr false (T.int IntKind.i64 w.c.slots), C.tr false (T.int IntKind.i64 w.c.tax), C.tr false (T.int IntKind.i64 w.c.slice), C.tr false (T.int IntKind.i64 w.c.gens), C.tr false (T.arr 1 w.p.mem.length (atL rowB w.p.mem)), C.tr false (T.arr 1 w.p.st.length (atL rowI w.p.st)), C.tr false (T.arr 1 w.p.own.length (atL rowI w.p.own)), C.tr false (T.arr 13 w.l.length (atL Nd.cs w.l)), C.tr false (T.arr 5 w.q.length (atL Ws.cs w.q)), C.tr false (T.arr 1 w.log.length (atL rowI w.log))])] = true := dom_ea (ea := ea_sRoomsIn) (x := w) h
theorem iv_sRoomsIn {w : Wd} (h : ok_sRoomsIn w) : inv ok_sRoomsIn ea_sRoomsIn [(0, true, [C.tr false (T.int IntKind.i64 w.c.chunks), C.tr false (T.int IntKind.i64 w.c.size), C.tr false (T.int IntKind.i64 w.c.slots), C.tr false (T.int IntKind.i64 w.c.tax), C.tr false (T.int IntKind.i64 w.c.slice), C.tr false (T.int IntKind.i64 w.c.gens), C.tr false (T.arr 1 w.p.mem.length (atL rowB w.p.mem)), C.tr false (T.arr 1 w.p.st.length (atL rowI w.p.st)), C.tr false (T.arr 1 w.p.own.length (atL rowI w.p.own)), C.tr false (T.arr 13 w.l.length (atL Nd.cs w.l)), C.tr false (T.arr 5 w.q.length (atL Ws.cs w.q)), C.tr false (T.arr 1 w.log.length (atL rowI w.log))])] = w := inv_ea ea_sRoomsIn_inj (x := w) h
theorem d_sRoomsIn (w : Wd) : f_sRoomsIn w = rms w.l := rfl
def i_sRoomsIn : Nat := 82
noncomputable abbrev F_sRoomsIn : Func := f82
def kp_sRoomsIn : List (Nat × List Nat) := [(0, [4, 5]), (1, [4, 5, 12]), (2, [4, 5, 12, 16]), (3, [4, 5, 12, 16, 40]), (4, [4, 5, 12, 16]), (5, [4, 5, 12, 16, 64]), (6, [4, 5, 12, 16]), (7, [8])]
def ts_sRoomsIn : List Nat := [0]
def st_sRoomsIn_1 (w : Wd) (nx12 : Nat) (fx12 : Nat → Nat → T) (x16 : Int) : St := [(4, ⟨z0, [(false, [(C.pt (Pt.ptr 5 0 [] 12 0 0))])]⟩), (5, ⟨z0, [(true, [.tr true (T.int IntKind.i64 w.c.1), .tr true (T.int IntKind.i64 w.c.2), .tr true (T.int IntKind.i64 w.c.3), .tr true (T.int IntKind.i64 w.c.4), .tr true (T.int IntKind.i64 w.c.5), .tr true (T.int IntKind.i64 w.c.6), .tr false (eL 1 rowB w.p.1), .tr false (eL 1 rowI w.p.2), .tr false (eL 1 rowI w.p.3), .tr false (eL 13 Nd.cs w.3), .tr false (eL 5 Ws.cs w.4), .tr false (eL 1 rowI w.5)])]⟩), (12, ⟨z0, [(false, [.tr true (.arr (1) (nx12) (fx12))])]⟩), (16, ⟨z0, [(false, [.tr true (T.int IntKind.i64 x16)])]⟩)]
def ex_sRoomsIn_1_1 (w : Wd) (nx12 : Nat) (fx12 : Nat → Nat → T) (x16 : Int) : St := [(4, ⟨z0, [(false, [(C.pt (Pt.ptr 5 0 [] 12 0 0))])]⟩), (5, ⟨z0, [(true, [.tr true (T.int IntKind.i64 w.c.1), .tr true (T.int IntKind.i64 w.c.2), .tr true (T.int IntKind.i64 w.c.3), .tr true (T.int IntKind.i64 w.c.4), .tr true (T.int IntKind.i64 w.c.5), .tr true (T.int IntKind.i64 w.c.6), .tr false (eL 1 rowB w.p.1), .tr false (eL 1 rowI w.p.2), .tr false (eL 1 rowI w.p.3), .tr false (eL 13 Nd.cs w.3), .tr false (eL 5 Ws.cs w.4), .tr false (eL 1 rowI w.5)])]⟩), (12, ⟨z0, [(false, [.tr true (.arr (1) (nx12) (fx12))])]⟩), (16, ⟨z0, [(false, [.tr true (T.int IntKind.i64 x16)])]⟩), (40, ⟨z0, []⟩)]
theorem round_sRoomsIn_1 (w : Wd) (nx12 : Nat) (fx12 : Nat → Nat → T) (x16 : Int) (n : Nat) (K : Ex → St → Res) : roundAt prog (tabS [(i_sAlive, e_sAlive)]) kp_sRoomsIn F_sRoomsIn [1, 1, 0, 1, 0] n (st_sRoomsIn_1 w nx12 fx12 x16) K = (
 bif decide (x16 < (↑w.3.length : Int)) then
  entK ok_sAlive ea_sAlive (f_sAlive) [(0, false, [C.tr false (eL 13 Nd.cs w.3)]), (0, false, [C.tr false (T.int IntKind.i64 x16)])] fun (r1 : Bool) =>
  bif r1 then
   gd (nx12.ble nx12 && true) <|
   gd (((nx12 + 1) * 8).ble 70368744177664 && (nx12 + 1).ble 70368744177664) <|
   gd ((nx12 + 1).ble (nx12 + 1) && true) <|
   K .normal (st_sRoomsIn_1 w (nx12 + 1) (appF nx12 fx12
  (plainF
    (cutT 0 1 fun j k =>
      Option.rec ((fun _ => T.hole) ()) (fun val => (fun val => (fun x => x) val) val)
        ([[T.int IntKind.i64 x16]].getD j [])[k]?))) (IntKind.i64.wrap (x16 + 1)))
  else
  K .normal (st_sRoomsIn_1 w (nx12) (fx12) (IntKind.i64.wrap (x16 + 1)))
 else
 K (.exit 0) (ex_sRoomsIn_1_1 w nx12 fx12 x16)) := by kernel_rfl
theorem post_sRoomsIn_1_1 (w : Wd) (nx12 : Nat) (fx12 : Nat → Nat → T) (x16 : Int) (n : Nat) : contAt prog (tabS [(i_sAlive, e_sAlive)]) kp_sRoomsIn F_sRoomsIn ts_sRoomsIn [1, 1, 0, 1, 0] [] n (.exit 0) (ex_sRoomsIn_1_1 w nx12 fx12 x16) = (
 gd (nx12.ble nx12 && true) <|
 gd (nx12.ble nx12 && true) <|
 some ([(false, [.tr true (.arr (1) (nx12) (fx12))])], [(false, [])])) := by kernel_rfl
theorem pre_sRoomsIn (w : Wd) (n : Nat) : body prog (tabS [(i_sAlive, e_sAlive)]) kp_sRoomsIn n F_sRoomsIn [aR w.cs] = (
 loopAt prog (tabS [(i_sAlive, e_sAlive)]) kp_sRoomsIn F_sRoomsIn [1, 1, 0, 1, 0] n n (st_sRoomsIn_1 w (0) (fun j k => T.hole) (0)) (contAt prog (tabS [(i_sAlive, e_sAlive)]) kp_sRoomsIn F_sRoomsIn ts_sRoomsIn [1, 1, 0, 1, 0] [] n)) := by kernel_rfl
theorem body_sRoomsIn (w : Wd) (h : ok_sRoomsIn w) : body prog (tabS [(i_sAlive, e_sAlive)]) kp_sRoomsIn (w.l.length + 1) F_sRoomsIn (ea_sRoomsIn w) = some (erT 1 (eI (f_sRoomsIn w))) := by
  have hlm := lm
  obtain ⟨hl, hu⟩ : w.l.length ≤ LM ∧ upI w.l := h
  unfold ea_sRoomsIn f_sRoomsIn
  try dsimp only
  rw [pre_sRoomsIn]
  obtain ⟨g, hg⟩ : ∃ g, g = rmsN w.l := ⟨_, rfl⟩
  have hgl : ∀ i, (g i).length ≤ i := fun i => by rw [hg]; exact rmsN_len _ i
  have hst : st_sRoomsIn_1 w 0 (fun j k => T.hole) 0 = (fun i : Nat => st_sRoomsIn_1 w (g i).length (atL rowI (g i)) (i : Nat)) 0 := by
    rw [hg]
    rfl
  rw [hst, forLoop w.l.length (fun i : Nat => st_sRoomsIn_1 w (g i).length (atL rowI (g i)) (i : Nat)) (ex_sRoomsIn_1_1 w (g w.l.length).length (atL rowI (g w.l.length)) w.l.length) 0 (fun i K hi => ?_) (fun K => ?_) _ (by omega)]
  · rw [post_sRoomsIn_1_1]
    simp only [ble_d, Nat.le_refl, decide_true, Bool.and_true, gd_true]
    rw [hg]
    rfl
  · have e : g (i + 1) = bif alv w.l i then g i ++ [(i : Int)] else g i := by
      rw [hg]
      rfl
    have hl := hgl i
    rw [round_sRoomsIn_1]
    have hs : ((g i).length + 1) * 8 ≤ 70368744177664 := by omega
    have hs2 : (g i).length + 1 ≤ 70368744177664 := by omega
    have c0 : ok_sAlive (w.l, (i : Int)) := ⟨by dsimp only; omega, by dsimp only; unfold inI; omega, hu⟩
    simp (disch := omega) only [lt_d, ge0_d, Int.toNat_natCast, blt_d, ble_self, beq_self, decide_true, cond_true, Bool.and_self, Bool.and_true, Bool.true_and, gd_true, Nat.zero_add, List.getD_cons_zero, List.getD_cons_succ, isI_int, toI_int, isB_bool, toB_bool, eL_T, arr_ln, arr_fn, arr_wd, arr_is, arr_get, eL_T, cut_all, ble_d, Nat.le_refl, hi, hs, hs2, rowI, wrapS, int_eq, entK_of (dm_sAlive c0) (iv_sAlive c0), d_sAlive]
    rw [e]
    cases alv w.l i with
    | true =>
      simp only [cond_true]
      refine congrArg (K .normal) ?_
      have ha := app1 (g i) (i : Int)
      rw [← ha, List.length_append]
      simp only [row1]
      rfl
    | false => rfl
  · rw [round_sRoomsIn_1]
    simp only [lt_d, Nat.lt_irrefl, decide_false, cond_false]
theorem s_sRoomsIn : EntOk prog i_sRoomsIn e_sRoomsIn := ent_ok ea_sRoomsIn_inj fun x hx =>
  body_sound (φ := (tabS [(i_sAlive, e_sAlive)])) (tabS_cons s_sAlive tabS_nil) mixed (kp := kp_sRoomsIn) (n := x.l.length + 1) func82 (c := bodyOf F_sRoomsIn) (by kernel_rfl) (body_sRoomsIn x hx) (name_ok (by kernel_rfl))
end Go.Mach.F