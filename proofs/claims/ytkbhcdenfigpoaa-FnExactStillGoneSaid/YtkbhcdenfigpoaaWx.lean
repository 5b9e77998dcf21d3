/- Worlds: copies and sizes as entries. Conditions: none. -/
import Derived.Test.YtkbhcdenfigpoaaWa
set_option linter.all false
namespace Go.Mach.F
open Go Go.Mach Go.Proofs.Try
--=set_option maxRecDepth 100000
def ok_ToWd (x : Wd) : Prop := ok_LB x.p.mem ∧ ok_LI x.p.st ∧ ok_LI x.p.own ∧ ok_NdS x.l ∧ ok_WsS x.q ∧ ok_LI x.log
def ea_ToWd (x : Wd) : List Arg := [aR x.cs]
def f_ToWd (x : Wd) : Wd := x
noncomputable def e_ToWd : Ent := ent [] ok_ToWd ea_ToWd (fun l => erR 1 l.cs) f_ToWd
theorem ea_ToWd_inj (x y : Wd) (h : ea_ToWd x = ea_ToWd y) : x = y := by
  simp only [ea_ToWd, List.cons.injEq, and_true, true_and] at h
  exact Wd.cs_ext (aR_inj h)
theorem dm_ToWd {l : Wd} (h : ok_ToWd l) : dom ok_ToWd ea_ToWd [(0, true, [C.tr false (T.int IntKind.i64 l.c.chunks), C.tr false (T.int IntKind.i64 l.c.size), C.tr false (T.int IntKind.i64 l.c.slots), C.tr false (T.int IntKind.i64 l.c.tax), C.tr false (T.int IntKind.i64 l.c.slice), C.tr false (T.int IntKind.i64 l.c.gens), C.tr false (T.arr 1 l.p.mem.length (atL rowB l.p.mem)), C.tr false (T.arr 1 l.p.st.length (atL rowI l.p.st)), C.tr false (T.arr 1 l.p.own.length (atL rowI l.p.own)), C.tr false (T.arr 13 l.l.length (atL Nd.cs l.l)), C.tr false (T.arr 5 l.q.length (atL Ws.cs l.q)), C.tr false (T.arr 1 l.log.length (atL rowI l.log))])] = true := dom_ea (ea := ea_ToWd) (x := l) h
theorem iv_ToWd {l : Wd} (h : ok_ToWd l) : inv ok_ToWd ea_ToWd [(0, true, [C.tr false (T.int IntKind.i64 l.c.chunks), C.tr false (T.int IntKind.i64 l.c.size), C.tr false (T.int IntKind.i64 l.c.slots), C.tr false (T.int IntKind.i64 l.c.tax), C.tr false (T.int IntKind.i64 l.c.slice), C.tr false (T.int IntKind.i64 l.c.gens), C.tr false (T.arr 1 l.p.mem.length (atL rowB l.p.mem)), C.tr false (T.arr 1 l.p.st.length (atL rowI l.p.st)), C.tr false (T.arr 1 l.p.own.length (atL rowI l.p.own)), C.tr false (T.arr 13 l.l.length (atL Nd.cs l.l)), C.tr false (T.arr 5 l.q.length (atL Ws.cs l.q)), C.tr false (T.arr 1 l.log.length (atL rowI l.log))])] = l := inv_ea ea_ToWd_inj (x := l) h
theorem d_ToWd (l : Wd) : f_ToWd l = l := rfl
def i_ToWd : Nat := 17
noncomputable abbrev F_ToWd : Func := f17
def kp_ToWd : List (Nat × List Nat) := [(0, [4, 5, 8, 9, 12, 13, 96]), (1, [4, 5, 8, 9, 12, 13, 96]), (2, [4, 5, 8, 9, 12, 13, 96]), (3, [4, 5, 8, 9, 12, 13, 96]), (4, [4, 5, 8, 9, 12, 13, 96]), (5, [4, 5, 8, 9, 12, 13, 96]), (6, [8, 9, 12, 13, 96]), (7, [8, 9, 12, 13, 96])]
def ts_ToWd : List Nat := [0]
theorem pre_ToWd (l : Wd) (n : Nat) : body prog (tabS [(i_toCf, e_toCf), (i_toPl, e_toPl), (i_toNdS, e_toNdS), (i_toWsS, e_toWsS), (i_toLI, e_toLI)]) kp_ToWd n F_ToWd [aR l.cs] = (
 gd (dom ok_LB ea_LB [(0, false, [C.tr false (eL 1 rowB l.p.1)])]) <|
 gd ((inv ok_LB ea_LB [(0, false, [C.tr false (eL 1 rowB l.p.1)])]).length.ble
    (inv ok_LB ea_LB [(0, false, [C.tr false (eL 1 rowB l.p.1)])]).length &&
  true) <|
 gd (dom ok_LI ea_LI [(0, false, [C.tr false (eL 1 rowI l.p.2)])]) <|
 gd ((inv ok_LI ea_LI [(0, false, [C.tr false (eL 1 rowI l.p.2)])]).length.ble
    (inv ok_LI ea_LI [(0, false, [C.tr false (eL 1 rowI l.p.2)])]).length &&
  true) <|
 gd (dom ok_LI ea_LI [(0, false, [C.tr false (eL 1 rowI l.p.3)])]) <|
 gd ((inv ok_LI ea_LI [(0, false, [C.tr false (eL 1 rowI l.p.3)])]).length.ble
    (inv ok_LI ea_LI [(0, false, [C.tr false (eL 1 rowI l.p.3)])]).length &&
  true) <|
 gd ((inv ok_LB ea_LB [(0, false, [C.tr false (eL 1 rowB l.p.1)])]).length.ble
    (inv ok_LB ea_LB [(0, false, [C.tr false (eL 1 rowB l.p.1)])]).length &&
  true) <|
 gd ((inv ok_LI ea_LI [(0, false, [C.tr false (eL 1 rowI l.p.2)])]).length.ble
    (inv ok_LI ea_LI [(0, false, [C.tr false (eL 1 rowI l.p.2)])]).length &&
  true) <|
 gd ((inv ok_LI ea_LI [(0, false, [C.tr false (eL 1 rowI l.p.3)])]).length.ble
    (inv ok_LI ea_LI [(0, false, [C.tr false (eL 1 rowI l.p.3)])]).length &&
  true) <|
 gd ((inv ok_LB ea_LB [(0, false, [C.tr false (eL 1 rowB l.p.1)])]).length.ble
    (inv ok_LB ea_LB [(0, false, [C.tr false (eL 1 rowB l.p.1)])]).length &&
  true) <|
 gd ((inv ok_LI ea_LI [(0, false, [C.tr false (eL 1 rowI l.p.2)])]).length.ble
    (inv ok_LI ea_LI [(0, false, [C.tr false (eL 1 rowI l.p.2)])]).length &&
  true) <|
 gd ((inv ok_LI ea_LI [(0, false, [C.tr false (eL 1 rowI l.p.3)])]).length.ble
    (inv ok_LI ea_LI [(0, false, [C.tr false (eL 1 rowI l.p.3)])]).length &&
  true) <|
 gd ((inv ok_LB ea_LB [(0, false, [C.tr false (eL 1 rowB l.p.1)])]).length.ble
    (inv ok_LB ea_LB [(0, false, [C.tr false (eL 1 rowB l.p.1)])]).length &&
  true) <|
 gd ((inv ok_LI ea_LI [(0, false, [C.tr false (eL 1 rowI l.p.2)])]).length.ble
    (inv ok_LI ea_LI [(0, false, [C.tr false (eL 1 rowI l.p.2)])]).length &&
  true) <|
 gd ((inv ok_LI ea_LI [(0, false, [C.tr false (eL 1 rowI l.p.3)])]).length.ble
    (inv ok_LI ea_LI [(0, false, [C.tr false (eL 1 rowI l.p.3)])]).length &&
  true) <|
 gd (dom ok_NdS ea_NdS [(0, false, [C.tr false (eL 13 Nd.cs l.3)])]) <|
 gd ((inv ok_NdS ea_NdS [(0, false, [C.tr false (eL 13 Nd.cs l.3)])]).length.ble
    (inv ok_NdS ea_NdS [(0, false, [C.tr false (eL 13 Nd.cs l.3)])]).length &&
  true) <|
 gd (dom ok_WsS ea_WsS [(0, false, [C.tr false (eL 5 Ws.cs l.4)])]) <|
 gd ((inv ok_WsS ea_WsS [(0, false, [C.tr false (eL 5 Ws.cs l.4)])]).length.ble
    (inv ok_WsS ea_WsS [(0, false, [C.tr false (eL 5 Ws.cs l.4)])]).length &&
  true) <|
 gd (dom ok_LI ea_LI [(0, false, [C.tr false (eL 1 rowI l.5)])]) <|
 gd ((inv ok_LI ea_LI [(0, false, [C.tr false (eL 1 rowI l.5)])]).length.ble
    (inv ok_LI ea_LI [(0, false, [C.tr false (eL 1 rowI l.5)])]).length &&
  true) <|
 gd ((inv ok_LB ea_LB [(0, false, [C.tr false (eL 1 rowB l.p.1)])]).length.ble
    (inv ok_LB ea_LB [(0, false, [C.tr false (eL 1 rowB l.p.1)])]).length &&
  true) <|
 gd ((inv ok_LI ea_LI [(0, false, [C.tr false (eL 1 rowI l.p.2)])]).length.ble
    (inv ok_LI ea_LI [(0, false, [C.tr false (eL 1 rowI l.p.2)])]).length &&
  true) <|
 gd ((inv ok_LI ea_LI [(0, false, [C.tr false (eL 1 rowI l.p.3)])]).length.ble
    (inv ok_LI ea_LI [(0, false, [C.tr false (eL 1 rowI l.p.3)])]).length &&
  true) <|
 gd ((inv ok_NdS ea_NdS [(0, false, [C.tr false (eL 13 Nd.cs l.3)])]).length.ble
    (inv ok_NdS ea_NdS [(0, false, [C.tr false (eL 13 Nd.cs l.3)])]).length &&
  true) <|
 gd ((inv ok_WsS ea_WsS [(0, false, [C.tr false (eL 5 Ws.cs l.4)])]).length.ble
    (inv ok_WsS ea_WsS [(0, false, [C.tr false (eL 5 Ws.cs l.4)])]).length &&
  true) <|
 gd ((inv ok_LI ea_LI [(0, false, [C.tr false (eL 1 rowI l.5)])]).length.ble
    (inv ok_LI ea_LI [(0, false, [C.tr false (eL 1 rowI l.5)])]).length &&
  true) <|
 gd ((inv ok_LB ea_LB [(0, false, [C.tr false (eL 1 rowB l.p.1)])]).length.ble
    (inv ok_LB ea_LB [(0, false, [C.tr false (eL 1 rowB l.p.1)])]).length &&
  true) <|
 gd ((inv ok_LI ea_LI [(0, false, [C.tr false (eL 1 rowI l.p.2)])]).length.ble
    (inv ok_LI ea_LI [(0, false, [C.tr false (eL 1 rowI l.p.2)])]).length &&
  true) <|
 gd ((inv ok_LI ea_LI [(0, false, [C.tr false (eL 1 rowI l.p.3)])]).length.ble
    (inv ok_LI ea_LI [(0, false, [C.tr false (eL 1 rowI l.p.3)])]).length &&
  true) <|
 gd ((inv ok_NdS ea_NdS [(0, false, [C.tr false (eL 13 Nd.cs l.3)])]).length.ble
    (inv ok_NdS ea_NdS [(0, false, [C.tr false (eL 13 Nd.cs l.3)])]).length &&
  true) <|
 gd ((inv ok_WsS ea_WsS [(0, false, [C.tr false (eL 5 Ws.cs l.4)])]).length.ble
    (inv ok_WsS ea_WsS [(0, false, [C.tr false (eL 5 Ws.cs l.4)])]).length &&
  true) <|
 gd ((inv ok_LI ea_LI [(0, false, [C.tr false (eL 1 rowI l.5)])]).length.ble
    (inv ok_LI ea_LI [(0, false, [C.tr false (eL 1 rowI l.5)])]).length &&
  true) <|
 some ([(true, [.tr true (T.int IntKind.i64 l.c.1), .tr true (T.int IntKind.i64 l.c.2), .tr true (T.int IntKind.i64 l.c.3), .tr true (T.int IntKind.i64 l.c.4), .tr true (T.int IntKind.i64 l.c.5), .tr true (T.int IntKind.i64 l.c.6), .tr true (.arr (1) ((inv ok_LB ea_LB [(0, false, [C.tr false (eL 1 rowB l.p.1)])]).length) (atL rowB (inv ok_LB ea_LB [(0, false, [C.tr false (eL 1 rowB l.p.1)])]))), .tr true (.arr (1) ((inv ok_LI ea_LI [(0, false, [C.tr false (eL 1 rowI l.p.2)])]).length) (atL rowI (inv ok_LI ea_LI [(0, false, [C.tr false (eL 1 rowI l.p.2)])]))), .tr true (.arr (1) ((inv ok_LI ea_LI [(0, false, [C.tr false (eL 1 rowI l.p.3)])]).length) (atL rowI (inv ok_LI ea_LI [(0, false, [C.tr false (eL 1 rowI l.p.3)])]))), .tr true (.arr (13) ((inv ok_NdS ea_NdS [(0, false, [C.tr false (eL 13 Nd.cs l.3)])]).length) ((eL 13 Nd.cs (inv ok_NdS ea_NdS [(0, false, [C.tr false (eL 13 Nd.cs l.3)])])).fn)), .tr true (.arr (5) ((inv ok_WsS ea_WsS [(0, false, [C.tr false (eL 5 Ws.cs l.4)])]).length) ((eL 5 Ws.cs (inv ok_WsS ea_WsS [(0, false, [C.tr false (eL 5 Ws.cs l.4)])])).fn)), .tr true (.arr (1) ((inv ok_LI ea_LI [(0, false, [C.tr false (eL 1 rowI l.5)])]).length) (atL rowI (inv ok_LI ea_LI [(0, false, [C.tr false (eL 1 rowI l.5)])])))])], [(false, [])])) := by kernel_rfl
theorem body_ToWd (l : Wd) (n : Nat) (h : ok_ToWd l) : body prog (tabS [(i_toCf, e_toCf), (i_toPl, e_toPl), (i_toNdS, e_toNdS), (i_toWsS, e_toWsS), (i_toLI, e_toLI)]) kp_ToWd n F_ToWd (ea_ToWd l) = some (erR 1 l.cs) := by
  have h0 : ok_LB l.p.mem := h.1
  have h1 : ok_LI l.p.st := h.2.1
  have h2 : ok_LI l.p.own := h.2.2.1
  have h3 : ok_NdS l.l := h.2.2.2.1
  have h4 : ok_WsS l.q := h.2.2.2.2.1
  have h5 : ok_LI l.log := h.2.2.2.2.2
  unfold ea_ToWd
  rw [pre_ToWd]
  simp only [lt_d, ge0_d, Int.toNat_natCast, blt_d, ble_self, beq_self, decide_true, cond_true, Bool.and_self, Bool.and_true, Bool.true_and, gd_true, Nat.zero_add, List.getD_cons_zero, List.getD_cons_succ, isI_int, toI_int, isB_bool, toB_bool, eL_T, arr_ln, arr_fn, arr_wd, arr_is, arr_get, Wd.cs, dm_toLB h0, iv_toLB h0, dm_toLI h1, iv_toLI h1, dm_toLI h2, iv_toLI h2, dm_toNdS h3, iv_toNdS h3, dm_toWsS h4, iv_toWsS h4, dm_toLI h5, iv_toLI h5, cut_all]
  rfl
theorem s_ToWd : EntOk prog i_ToWd e_ToWd := ent_ok ea_ToWd_inj fun x hx =>
  body_sound (φ := (tabS [(i_toCf, e_toCf), (i_toPl, e_toPl), (i_toNdS, e_toNdS), (i_toWsS, e_toWsS), (i_toLI, e_toLI)])) (tabS_cons s_toCf (tabS_cons s_toPl (tabS_cons s_toNdS (tabS_cons s_toWsS (tabS_cons s_toLI tabS_nil))))) mixed (kp := kp_ToWd) (n := 0) func17 (c := bodyOf F_ToWd) (by kernel_rfl) (body_ToWd x 0 hx) (name_ok (by kernel_rfl))
def okq_Wd (l : Wd) : Prop := okq_LB l.p.mem ∧ okq_LI l.p.st ∧ okq_LI l.p.own ∧ okq_NdS l.l ∧ okq_WsS l.q ∧ okq_LI l.log
def n_Wd (l : Wd) : Nat := n_LB l.p.mem + n_LI l.p.st + n_LI l.p.own + n_NdS l.l + n_WsS l.q + n_LI l.log
def ok_SzWd (x : Wd × Int) : Prop := z_Wd x.1 ∧ 0 ≤ x.2 ∧ x.2 ≤ LM
def ea_SzWd (x : Wd × Int) : List Arg := [aR x.1.cs, aI x.2]
def f_SzWd (x : Wd × Int) : Int := if (n_Wd x.1 : Int) ≤ x.2 then x.2 - n_Wd x.1 else -1
noncomputable def e_SzWd : Ent := ent [] ok_SzWd ea_SzWd (erI 2) f_SzWd
theorem ea_SzWd_inj (x y : Wd × Int) (h : ea_SzWd x = ea_SzWd y) : x = y := by
  obtain ⟨l1, k1⟩ := x
  obtain ⟨l2, k2⟩ := y
  simp only [ea_SzWd, List.cons.injEq, and_true, true_and] at h
  obtain ⟨e0, e1⟩ := h
  obtain rfl := Wd.cs_ext (aR_inj e0)
  obtain rfl := aI_inj e1
  rfl
theorem dm_SzWd {l : Wd} {k : Int} (h : ok_SzWd (l, k)) : dom ok_SzWd ea_SzWd [(0, true, [C.tr false (T.int IntKind.i64 l.c.chunks), C.tr false (T.int IntKind.i64 l.c.size), C.tr false (T.int IntKind.i64 l.c.slots), C.tr false (T.int IntKind.i64 l.c.tax), C.tr false (T.int IntKind.i64 l.c.slice), C.tr false (T.int IntKind.i64 l.c.gens), C.tr false (T.arr 1 l.p.mem.length (atL rowB l.p.mem)), C.tr false (T.arr 1 l.p.st.length (atL rowI l.p.st)), C.tr false (T.arr 1 l.p.own.length (atL rowI l.p.own)), C.tr false (T.arr 13 l.l.length (atL Nd.cs l.l)), C.tr false (T.arr 5 l.q.length (atL Ws.cs l.q)), C.tr false (T.arr 1 l.log.length (atL rowI l.log))]), (0, false, [C.tr false (T.int IntKind.i64 k)])] = true := dom_ea (ea := ea_SzWd) (x := (l, k)) h
theorem iv_SzWd {l : Wd} {k : Int} (h : ok_SzWd (l, k)) : inv ok_SzWd ea_SzWd [(0, true, [C.tr false (T.int IntKind.i64 l.c.chunks), C.tr false (T.int IntKind.i64 l.c.size), C.tr false (T.int IntKind.i64 l.c.slots), C.tr false (T.int IntKind.i64 l.c.tax), C.tr false (T.int IntKind.i64 l.c.slice), C.tr false (T.int IntKind.i64 l.c.gens), C.tr false (T.arr 1 l.p.mem.length (atL rowB l.p.mem)), C.tr false (T.arr 1 l.p.st.length (atL rowI l.p.st)), C.tr false (T.arr 1 l.p.own.length (atL rowI l.p.own)), C.tr false (T.arr 13 l.l.length (atL Nd.cs l.l)), C.tr false (T.arr 5 l.q.length (atL Ws.cs l.q)), C.tr false (T.arr 1 l.log.length (atL rowI l.log))]), (0, false, [C.tr false (T.int IntKind.i64 k)])] = (l, k) := inv_ea ea_SzWd_inj (x := (l, k)) h
theorem d_SzWd (l : Wd) (k : Int) : f_SzWd (l, k) = if (n_Wd l : Int) ≤ k then k - n_Wd l else -1 := rfl
def i_SzWd : Nat := 15
noncomputable abbrev F_SzWd : Func := f15
def kp_SzWd : List (Nat × List Nat) := [(0, [4, 8, 9]), (1, [4, 8, 9]), (2, [4, 8, 9, 40]), (3, [16]), (4, [4, 8, 9]), (5, [4, 8, 9, 64]), (6, [16]), (7, [4, 8, 9]), (8, [4, 8, 9, 88]), (9, [16]), (10, [4]), (11, [4, 112]), (12, [16]), (13, [16])]
def ts_SzWd : List Nat := [0, 0]
theorem pre_SzWd (l : Wd) (k : Int) (n : Nat) : body prog (tabS [(i_szPl, e_szPl), (i_szNdS, e_szNdS), (i_szWsS, e_szWsS), (i_szLI, e_szLI)]) kp_SzWd n F_SzWd [aR l.cs, aI k] = (
 bif decide (IntKind.i64.wrap (k - (↑l.p.1.length : Int)) < 0) then
  some ([(false, [.tr true (T.int IntKind.i64 (-1))])], [(false, []), (false, [])])
 else
 bif decide (IntKind.i64.wrap (k - (↑l.p.1.length : Int)) < 0) then
  some ([(false, [.tr true (T.int IntKind.i64 (-1))])], [(false, []), (false, [])])
 else
 bif decide (IntKind.i64.wrap (IntKind.i64.wrap (k - (↑l.p.1.length : Int)) - (↑l.p.2.length : Int)) < 0) then
  some ([(false, [.tr true (T.int IntKind.i64 (-1))])], [(false, []), (false, [])])
 else
 bif decide (IntKind.i64.wrap (IntKind.i64.wrap (k - (↑l.p.1.length : Int)) - (↑l.p.2.length : Int)) < 0) then
  some ([(false, [.tr true (T.int IntKind.i64 (-1))])], [(false, []), (false, [])])
 else
 bif decide
  (IntKind.i64.wrap
      (IntKind.i64.wrap (IntKind.i64.wrap (k - (↑l.p.1.length : Int)) - (↑l.p.2.length : Int)) -
        (↑l.p.3.length : Int)) <
    0) then
  some ([(false, [.tr true (T.int IntKind.i64 (-1))])], [(false, []), (false, [])])
 else
 bif decide
  (IntKind.i64.wrap
      (IntKind.i64.wrap (IntKind.i64.wrap (k - (↑l.p.1.length : Int)) - (↑l.p.2.length : Int)) -
        (↑l.p.3.length : Int)) <
    0) then
  some ([(false, [.tr true (T.int IntKind.i64 (-1))])], [(false, []), (false, [])])
 else
 bif decide
  (IntKind.i64.wrap
      (IntKind.i64.wrap (IntKind.i64.wrap (k - (↑l.p.1.length : Int)) - (↑l.p.2.length : Int)) -
        (↑l.p.3.length : Int)) <
    0) then
  some ([(false, [.tr true (T.int IntKind.i64 (-1))])], [(false, []), (false, [])])
 else
 gd (dom okzz_NdS eaz_NdS
  [(0, false, [C.tr false (eL 13 Nd.cs l.3)]),
    (0, false,
      [C.tr false
          (T.int IntKind.i64
            (IntKind.i64.wrap
              (IntKind.i64.wrap (IntKind.i64.wrap (k - (↑l.p.1.length : Int)) - (↑l.p.2.length : Int)) -
                (↑l.p.3.length : Int))))])]) <|
 bif decide
  (f_szNdS
      (inv okzz_NdS eaz_NdS
        [(0, false, [C.tr false (eL 13 Nd.cs l.3)]),
          (0, false,
            [C.tr false
                (T.int IntKind.i64
                  (IntKind.i64.wrap
                    (IntKind.i64.wrap (IntKind.i64.wrap (k - (↑l.p.1.length : Int)) - (↑l.p.2.length : Int)) -
                      (↑l.p.3.length : Int))))])]) <
    0) then
  some ([(false, [.tr true (T.int IntKind.i64 (-1))])], [(false, []), (false, [])])
 else
 gd (dom okzz_WsS eaz_WsS
  [(0, false, [C.tr false (eL 5 Ws.cs l.4)]),
    (0, false,
      [C.tr false
          (T.int IntKind.i64
            (f_szNdS
              (inv okzz_NdS eaz_NdS
                [(0, false, [C.tr false (eL 13 Nd.cs l.3)]),
                  (0, false,
                    [C.tr false
                        (T.int IntKind.i64
                          (IntKind.i64.wrap
                            (IntKind.i64.wrap
                                (IntKind.i64.wrap (k - (↑l.p.1.length : Int)) - (↑l.p.2.length : Int)) -
                              (↑l.p.3.length : Int))))])])))])]) <|
 bif decide
  (f_szWsS
      (inv okzz_WsS eaz_WsS
        [(0, false, [C.tr false (eL 5 Ws.cs l.4)]),
          (0, false,
            [C.tr false
                (T.int IntKind.i64
                  (f_szNdS
                    (inv okzz_NdS eaz_NdS
                      [(0, false, [C.tr false (eL 13 Nd.cs l.3)]),
                        (0, false,
                          [C.tr false
                              (T.int IntKind.i64
                                (IntKind.i64.wrap
                                  (IntKind.i64.wrap
                                      (IntKind.i64.wrap (k - (↑l.p.1.length : Int)) - (↑l.p.2.length : Int)) -
                                    (↑l.p.3.length : Int))))])])))])]) <
    0) then
  some ([(false, [.tr true (T.int IntKind.i64 (-1))])], [(false, []), (false, [])])
 else
 bif decide
  (IntKind.i64.wrap
      (f_szWsS
          (inv okzz_WsS eaz_WsS
            [(0, false, [C.tr false (eL 5 Ws.cs l.4)]),
              (0, false,
                [C.tr false
                    (T.int IntKind.i64
                      (f_szNdS
                        (inv okzz_NdS eaz_NdS
                          [(0, false, [C.tr false (eL 13 Nd.cs l.3)]),
                            (0, false,
                              [C.tr false
                                  (T.int IntKind.i64
                                    (IntKind.i64.wrap
                                      (IntKind.i64.wrap
                                          (IntKind.i64.wrap (k - (↑l.p.1.length : Int)) - (↑l.p.2.length : Int)) -
                                        (↑l.p.3.length : Int))))])])))])]) -
        (↑l.5.length : Int)) <
    0) then
  some ([(false, [.tr true (T.int IntKind.i64 (-1))])], [(false, []), (false, [])])
 else
 bif decide
  (IntKind.i64.wrap
      (f_szWsS
          (inv okzz_WsS eaz_WsS
            [(0, false, [C.tr false (eL 5 Ws.cs l.4)]),
              (0, false,
                [C.tr false
                    (T.int IntKind.i64
                      (f_szNdS
                        (inv okzz_NdS eaz_NdS
                          [(0, false, [C.tr false (eL 13 Nd.cs l.3)]),
                            (0, false,
                              [C.tr false
                                  (T.int IntKind.i64
                                    (IntKind.i64.wrap
                                      (IntKind.i64.wrap
                                          (IntKind.i64.wrap (k - (↑l.p.1.length : Int)) - (↑l.p.2.length : Int)) -
                                        (↑l.p.3.length : Int))))])])))])]) -
        (↑l.5.length : Int)) <
    0) then
  some ([(false, [.tr true (T.int IntKind.i64 (-1))])], [(false, []), (false, [])])
 else
 some ([(false, [.tr true (T.int IntKind.i64
  (IntKind.i64.wrap
    (f_szWsS
        (inv okzz_WsS eaz_WsS
          [(0, false, [C.tr false (eL 5 Ws.cs l.4)]),
            (0, false,
              [C.tr false
                  (T.int IntKind.i64
                    (f_szNdS
                      (inv okzz_NdS eaz_NdS
                        [(0, false, [C.tr false (eL 13 Nd.cs l.3)]),
                          (0, false,
                            [C.tr false
                                (T.int IntKind.i64
                                  (IntKind.i64.wrap
                                    (IntKind.i64.wrap
                                        (IntKind.i64.wrap (k - (↑l.p.1.length : Int)) - (↑l.p.2.length : Int)) -
                                      (↑l.p.3.length : Int))))])])))])]) -
      (↑l.5.length : Int))))])], [(false, []), (false, [])])) := by kernel_rfl
theorem body_SzWd (l : Wd) (k : Int) (n : Nat) (h : ok_SzWd (l, k)) : body prog (tabS [(i_szPl, e_szPl), (i_szNdS, e_szNdS), (i_szWsS, e_szWsS), (i_szLI, e_szLI)]) kp_SzWd n F_SzWd (ea_SzWd (l, k)) = some (erI 2 (f_SzWd (l, k))) := by
  have hzm := zm
  have hlm := lm
  obtain ⟨hz, hk0, hk1⟩ := h
  dsimp only at hz hk0 hk1
  have z0 : okz_LB l.p.mem := hz.1
  have z1 : okz_LI l.p.st := hz.2.1
  have z2 : okz_LI l.p.own := hz.2.2.1
  have z3 : okz_NdS l.l := hz.2.2.2.1
  have z4 : okz_WsS l.q := hz.2.2.2.2.1
  have z5 : okz_LI l.log := hz.2.2.2.2.2
  have hn : n_Wd l = l.p.mem.length + l.p.st.length + l.p.own.length + n_NdS l.l + n_WsS l.q + l.log.length := rfl
  unfold ea_SzWd f_SzWd
  dsimp only
  rw [pre_SzWd]
  have y0 : l.p.mem.length ≤ ZM := z0
  try simp (disch := omega) only [wrapI]
  by_cases e0 : k - (l.p.mem.length : Int) < 0
  · rw [if_neg (by omega)]
    simp only [decide_eq_true e0, cond_true]
    rfl
  simp (disch := omega) only [decide_eq_false e0, cond_false, wrapI]
  have y1 : l.p.st.length ≤ ZM := z1
  try simp (disch := omega) only [wrapI]
  by_cases e1 : k - (l.p.mem.length : Int) - (l.p.st.length : Int) < 0
  · rw [if_neg (by omega)]
    simp only [decide_eq_true e1, cond_true]
    rfl
  simp (disch := omega) only [decide_eq_false e1, cond_false, wrapI]
  have y2 : l.p.own.length ≤ ZM := z2
  try simp (disch := omega) only [wrapI]
  by_cases e2 : k - (l.p.mem.length : Int) - (l.p.st.length : Int) - (l.p.own.length : Int) < 0
  · rw [if_neg (by omega)]
    simp only [decide_eq_true e2, cond_true]
    rfl
  simp (disch := omega) only [decide_eq_false e2, cond_false, wrapI]
  have y3 : okzz_NdS (l.l, k - (l.p.mem.length : Int) - (l.p.st.length : Int) - (l.p.own.length : Int)) := ⟨z3, by dsimp only; omega, by dsimp only; omega⟩
  simp only [lt_d, ge0_d, Int.toNat_natCast, blt_d, ble_self, beq_self, decide_true, cond_true, Bool.and_self, Bool.and_true, Bool.true_and, gd_true, Nat.zero_add, List.getD_cons_zero, List.getD_cons_succ, isI_int, toI_int, isB_bool, toB_bool, eL_T, arr_ln, arr_fn, arr_wd, arr_is, arr_get, Wd.cs, dm_szNdS y3, iv_szNdS y3]
  by_cases e3 : (n_NdS l.l : Int) ≤ k - (l.p.mem.length : Int) - (l.p.st.length : Int) - (l.p.own.length : Int)
  case neg =>
    simp only [n_szNdS e3]
    rw [if_neg (by omega)]
    simp only [decide_eq_true (show (-1 : Int) < 0 by omega), cond_true]
    rfl
  simp only [y_szNdS e3]
  simp (disch := omega) only [decide_eq_false (show ¬ k - (l.p.mem.length : Int) - (l.p.st.length : Int) - (l.p.own.length : Int) - (n_NdS l.l : Int) < 0 by omega), cond_false, wrapI]
  have y4 : okzz_WsS (l.q, k - (l.p.mem.length : Int) - (l.p.st.length : Int) - (l.p.own.length : Int) - (n_NdS l.l : Int)) := ⟨z4, by dsimp only; omega, by dsimp only; omega⟩
  simp only [lt_d, ge0_d, Int.toNat_natCast, blt_d, ble_self, beq_self, decide_true, cond_true, Bool.and_self, Bool.and_true, Bool.true_and, gd_true, Nat.zero_add, List.getD_cons_zero, List.getD_cons_succ, isI_int, toI_int, isB_bool, toB_bool, eL_T, arr_ln, arr_fn, arr_wd, arr_is, arr_get, Wd.cs, dm_szWsS y4, iv_szWsS y4]
  by_cases e4 : (n_WsS l.q : Int) ≤ k - (l.p.mem.length : Int) - (l.p.st.length : Int) - (l.p.own.length : Int) - (n_NdS l.l : Int)
  case neg =>
    simp only [n_szWsS e4]
    rw [if_neg (by omega)]
    simp only [decide_eq_true (show (-1 : Int) < 0 by omega), cond_true]
    rfl
  simp only [y_szWsS e4]
  simp (disch := omega) only [decide_eq_false (show ¬ k - (l.p.mem.length : Int) - (l.p.st.length : Int) - (l.p.own.length : Int) - (n_NdS l.l : Int) - (n_WsS l.q : Int) < 0 by omega), cond_false, wrapI]
  have y5 : l.log.length ≤ ZM := z5
  try simp (disch := omega) only [wrapI]
  by_cases e5 : k - (l.p.mem.length : Int) - (l.p.st.length : Int) - (l.p.own.length : Int) - (n_NdS l.l : Int) - (n_WsS l.q : Int) - (l.log.length : Int) < 0
  · rw [if_neg (by omega)]
    simp only [decide_eq_true e5, cond_true]
    rfl
  simp (disch := omega) only [decide_eq_false e5, cond_false, wrapI]
  rw [if_pos (by omega), show k - (n_Wd l : Int) = k - (l.p.mem.length : Int) - (l.p.st.length : Int) - (l.p.own.length : Int) - (n_NdS l.l : Int) - (n_WsS l.q : Int) - (l.log.length : Int) by omega]
  rfl
theorem s_SzWd : EntOk prog i_SzWd e_SzWd := ent_ok ea_SzWd_inj fun x hx =>
  body_sound (φ := (tabS [(i_szPl, e_szPl), (i_szNdS, e_szNdS), (i_szWsS, e_szWsS), (i_szLI, e_szLI)])) (tabS_cons s_szPl (tabS_cons s_szNdS (tabS_cons s_szWsS (tabS_cons s_szLI tabS_nil)))) mixed (kp := kp_SzWd) (n := 0) func15 (c := bodyOf F_SzWd) (by kernel_rfl) (body_SzWd x.1 x.2 (0) hx) (name_ok (by kernel_rfl))
theorem y_SzWd {l : Wd} {k : Int} (h : (n_Wd l : Int) ≤ k) : f_SzWd (l, k) = k - n_Wd l := if_pos h
theorem n_SzWd {l : Wd} {k : Int} (h : ¬ (n_Wd l : Int) ≤ k) : f_SzWd (l, k) = -1 := if_neg h
theorem okn_Wd {l : Wd} (h : (n_Wd l : Int) ≤ 1048576) : ok_ToWd l ∧ okq_Wd l := ⟨⟨(okn_LB (l := l.p.mem) (by have : n_Wd l = n_LB l.p.mem + n_LI l.p.st + n_LI l.p.own + n_NdS l.l + n_WsS l.q + n_LI l.log := rfl; omega)).1, (okn_LI (l := l.p.st) (by have : n_Wd l = n_LB l.p.mem + n_LI l.p.st + n_LI l.p.own + n_NdS l.l + n_WsS l.q + n_LI l.log := rfl; omega)).1, (okn_LI (l := l.p.own) (by have : n_Wd l = n_LB l.p.mem + n_LI l.p.st + n_LI l.p.own + n_NdS l.l + n_WsS l.q + n_LI l.log := rfl; omega)).1, (okn_NdS (l := l.l) (by have : n_Wd l = n_LB l.p.mem + n_LI l.p.st + n_LI l.p.own + n_NdS l.l + n_WsS l.q + n_LI l.log := rfl; omega)).1, (okn_WsS (l := l.q) (by have : n_Wd l = n_LB l.p.mem + n_LI l.p.st + n_LI l.p.own + n_NdS l.l + n_WsS l.q + n_LI l.log := rfl; omega)).1, (okn_LI (l := l.log) (by have : n_Wd l = n_LB l.p.mem + n_LI l.p.st + n_LI l.p.own + n_NdS l.l + n_WsS l.q + n_LI l.log := rfl; omega)).1⟩, ⟨(okn_LB (l := l.p.mem) (by have : n_Wd l = n_LB l.p.mem + n_LI l.p.st + n_LI l.p.own + n_NdS l.l + n_WsS l.q + n_LI l.log := rfl; omega)).2, (okn_LI (l := l.p.st) (by have : n_Wd l = n_LB l.p.mem + n_LI l.p.st + n_LI l.p.own + n_NdS l.l + n_WsS l.q + n_LI l.log := rfl; omega)).2, (okn_LI (l := l.p.own) (by have : n_Wd l = n_LB l.p.mem + n_LI l.p.st + n_LI l.p.own + n_NdS l.l + n_WsS l.q + n_LI l.log := rfl; omega)).2, (okn_NdS (l := l.l) (by have : n_Wd l = n_LB l.p.mem + n_LI l.p.st + n_LI l.p.own + n_NdS l.l + n_WsS l.q + n_LI l.log := rfl; omega)).2, (okn_WsS (l := l.q) (by have : n_Wd l = n_LB l.p.mem + n_LI l.p.st + n_LI l.p.own + n_NdS l.l + n_WsS l.q + n_LI l.log := rfl; omega)).2, (okn_LI (l := l.log) (by have : n_Wd l = n_LB l.p.mem + n_LI l.p.st + n_LI l.p.own + n_NdS l.l + n_WsS l.q + n_LI l.log := rfl; omega)).2⟩⟩
end Go.Mach.F