/- Reused. Conditions: none. -/
import Derived.Test.YtkbhcdenfigpoaaWa
set_option linter.all false
namespace Go.Mach.F
open Go Go.Mach Go.Proofs.Try
--=set_option maxRecDepth 100000
def rusP (x y : Nd) : Bool := decide (x.gen < y.gen) || (decide (y.st = 3) && !decide (x.st = 3))
def rusN (l r : List Nd) : Nat → Int
  | 0 => 0
  | i + 1 => match l[i]?, r[i]? with
    | some x, some y => bif rusP x y then IntKind.i64.wrap (rusN l r i + 1) else rusN l r i
    | _, _ => rusN l r i
def rus (l r : List Nd) : Int := rusN l r (min l.length r.length)
theorem min_if (a b : Nat) : (if (b : Int) < (a : Int) then (b : Int) else (a : Int)) = ((min a b : Nat) : Int) := by split <;> omega
def ok_iReused (x : Wd × Wd) : Prop := x.1.l.length ≤ LM ∧ x.2.l.length ≤ LM
def ea_iReused (x : Wd × Wd) : List Arg := [aR x.1.cs, aR x.2.cs]
def f_iReused (x : Wd × Wd) : Int := rus x.1.l x.2.l
noncomputable def e_iReused : Ent := ent [] ok_iReused ea_iReused (erI 2) f_iReused
theorem ea_iReused_inj (x y : Wd × Wd) (h : ea_iReused x = ea_iReused y) : x = y := by
  obtain ⟨a1, b1⟩ := x
  obtain ⟨a2, b2⟩ := y
  simp only [ea_iReused, List.cons.injEq, and_true, true_and] at h
  obtain ⟨e0, e1⟩ := h
  obtain rfl := Wd.cs_ext (aR_inj e0)
  obtain rfl := Wd.cs_ext (aR_inj e1)
  rfl
theorem dm_iReused {a : Wd} {b : Wd} (h : ok_iReused (a, b)) : dom ok_iReused ea_iReused [(0, true, [C.tr false (T.int IntKind.i64 a.c.chunks), C.tr false (T.int IntKind.i64 a.c.size), C.tr false (T.int IntKind.i64 a.c.slots), C.tr false (T.int IntKind.i64 a.c.tax), C.tr false (T.int IntKind.i64 a.c.slice), C.tr false (T.int IntKind.i64 a.c.gens), C.tr false (T.arr 1 a.p.mem.length (atL rowB a.p.mem)), C.tr false (T.arr 1 a.p.st.length (atL rowI a.p.st)), C.tr false (T.arr 1 a.p.own.length (atL rowI a.p.own)), C.tr false (T.arr 13 a.l.length (atL Nd.cs a.l)), C.tr false (T.arr 5 a.q.length (atL Ws.cs a.q)), C.tr false (T.arr 1 a.log.length (atL rowI a.log))]), (0, true, [C.tr false (T.int IntKind.i64 b.c.chunks), C.tr false (T.int IntKind.i64 b.c.size), C.tr false (T.int IntKind.i64 b.c.slots), C.tr false (T.int IntKind.i64 b.c.tax), C.tr false (T.int IntKind.i64 b.c.slice), C.tr false (T.int IntKind.i64 b.c.gens), C.tr false (T.arr 1 b.p.mem.length (atL rowB b.p.mem)), C.tr false (T.arr 1 b.p.st.length (atL rowI b.p.st)), C.tr false (T.arr 1 b.p.own.length (atL rowI b.p.own)), C.tr false (T.arr 13 b.l.length (atL Nd.cs b.l)), C.tr false (T.arr 5 b.q.length (atL Ws.cs b.q)), C.tr false (T.arr 1 b.log.length (atL rowI b.log))])] = true := dom_ea (ea := ea_iReused) (x := (a, b)) h
theorem iv_iReused {a : Wd} {b : Wd} (h : ok_iReused (a, b)) : inv ok_iReused ea_iReused [(0, true, [C.tr false (T.int IntKind.i64 a.c.chunks), C.tr false (T.int IntKind.i64 a.c.size), C.tr false (T.int IntKind.i64 a.c.slots), C.tr false (T.int IntKind.i64 a.c.tax), C.tr false (T.int IntKind.i64 a.c.slice), C.tr false (T.int IntKind.i64 a.c.gens), C.tr false (T.arr 1 a.p.mem.length (atL rowB a.p.mem)), C.tr false (T.arr 1 a.p.st.length (atL rowI a.p.st)), C.tr false (T.arr 1 a.p.own.length (atL rowI a.p.own)), C.tr false (T.arr 13 a.l.length (atL Nd.cs a.l)), C.tr false (T.arr 5 a.q.length (atL Ws.cs a.q)), C.tr false (T.arr 1 a.log.length (atL rowI a.log))]), (0, true, [C.tr false (T.int IntKind.i64 b.c.chunks), C.tr false (T.int IntKind.i64 b.c.size), C.tr false (T.int IntKind.i64 b.c.slots), C.tr false (T.int IntKind.i64 b.c.tax), C.tr false (T.int IntKind.i64 b.c.slice), C.tr false (T.int IntKind.i64 b.c.gens), C.tr false (T.arr 1 b.p.mem.length (atL rowB b.p.mem)), C.tr false (T.arr 1 b.p.st.length (atL rowI b.p.st)), C.tr false (T.arr 1 b.p.own.length (atL rowI b.p.own)), C.tr false (T.arr 13 b.l.length (atL Nd.cs b.l)), C.tr false (T.arr 5 b.q.length (atL Ws.cs b.q)), C.tr false (T.arr 1 b.log.length (atL rowI b.log))])] = (a, b) := inv_ea ea_iReused_inj (x := (a, b)) h
theorem d_iReused (a : Wd) (b : Wd) : f_iReused (a, b) = rus a.l b.l := rfl
def i_iReused : Nat := 18
noncomputable abbrev F_iReused : Func := f18
def kp_iReused : List (Nat × List Nat) := [(0, [8, 9, 12, 13]), (1, [8, 9, 12, 13, 20]), (2, [8, 9, 12, 13, 20, 52, 56]), (3, [8, 9, 12, 13, 20, 52, 56, 60, 124, 128, 132, 136, 140, 144, 148, 152, 156, 160, 164, 168, 172, 176, 180, 184]), (4, [8, 9, 12, 13, 20, 24, 52, 56, 124, 128, 132, 136, 140, 144, 148, 152, 156, 160, 164, 168, 172, 176, 180, 184]), (5, [8, 9, 12, 13, 20, 52, 56, 188]), (6, [8, 9, 12, 13, 20, 52, 56]), (7, [8, 9, 12, 13, 20, 52, 56]), (8, [16])]
def ts_iReused : List Nat := [0, 0]
def st_iReused_1 (a : Wd) (b : Wd) (x20 : Int) (x56 : Int) : St := [(8, ⟨z0, [(false, [(C.pt (Pt.ptr 9 0 [] 12 0 0))])]⟩), (9, ⟨z0, [(true, [.tr true (T.int IntKind.i64 a.c.1), .tr true (T.int IntKind.i64 a.c.2), .tr true (T.int IntKind.i64 a.c.3), .tr true (T.int IntKind.i64 a.c.4), .tr true (T.int IntKind.i64 a.c.5), .tr true (T.int IntKind.i64 a.c.6), .tr false (eL 1 rowB a.p.1), .tr false (eL 1 rowI a.p.2), .tr false (eL 1 rowI a.p.3), .tr false (eL 13 Nd.cs a.3), .tr false (eL 5 Ws.cs a.4), .tr false (eL 1 rowI a.5)])]⟩), (12, ⟨z0, [(false, [(C.pt (Pt.ptr 13 0 [] 12 0 0))])]⟩), (13, ⟨z0, [(true, [.tr true (T.int IntKind.i64 b.c.1), .tr true (T.int IntKind.i64 b.c.2), .tr true (T.int IntKind.i64 b.c.3), .tr true (T.int IntKind.i64 b.c.4), .tr true (T.int IntKind.i64 b.c.5), .tr true (T.int IntKind.i64 b.c.6), .tr false (eL 1 rowB b.p.1), .tr false (eL 1 rowI b.p.2), .tr false (eL 1 rowI b.p.3), .tr false (eL 13 Nd.cs b.3), .tr false (eL 5 Ws.cs b.4), .tr false (eL 1 rowI b.5)])]⟩), (20, ⟨z0, [(false, [.tr true (T.int IntKind.i64 x20)])]⟩), (52, ⟨z0, [(false, [.tr true (T.int IntKind.i64 (if (↑b.l.length : Int) < (↑a.l.length : Int) then (↑b.3.length : Int) else (↑a.3.length : Int)))])]⟩), (56, ⟨z0, [(false, [.tr true (T.int IntKind.i64 x56)])]⟩)]
def ex_iReused_1_1 (a : Wd) (b : Wd) (x20 : Int) (x56 : Int) : St := [(8, ⟨z0, [(false, [(C.pt (Pt.ptr 9 0 [] 12 0 0))])]⟩), (9, ⟨z0, [(true, [.tr true (T.int IntKind.i64 a.c.1), .tr true (T.int IntKind.i64 a.c.2), .tr true (T.int IntKind.i64 a.c.3), .tr true (T.int IntKind.i64 a.c.4), .tr true (T.int IntKind.i64 a.c.5), .tr true (T.int IntKind.i64 a.c.6), .tr false (eL 1 rowB a.p.1), .tr false (eL 1 rowI a.p.2), .tr false (eL 1 rowI a.p.3), .tr false (eL 13 Nd.cs a.3), .tr false (eL 5 Ws.cs a.4), .tr false (eL 1 rowI a.5)])]⟩), (12, ⟨z0, [(false, [(C.pt (Pt.ptr 13 0 [] 12 0 0))])]⟩), (13, ⟨z0, [(true, [.tr true (T.int IntKind.i64 b.c.1), .tr true (T.int IntKind.i64 b.c.2), .tr true (T.int IntKind.i64 b.c.3), .tr true (T.int IntKind.i64 b.c.4), .tr true (T.int IntKind.i64 b.c.5), .tr true (T.int IntKind.i64 b.c.6), .tr false (eL 1 rowB b.p.1), .tr false (eL 1 rowI b.p.2), .tr false (eL 1 rowI b.p.3), .tr false (eL 13 Nd.cs b.3), .tr false (eL 5 Ws.cs b.4), .tr false (eL 1 rowI b.5)])]⟩), (20, ⟨z0, [(false, [.tr true (T.int IntKind.i64 x20)])]⟩), (52, ⟨z0, [(false, [.tr true (T.int IntKind.i64 (if (↑b.l.length : Int) < (↑a.l.length : Int) then (↑b.3.length : Int) else (↑a.3.length : Int)))])]⟩), (56, ⟨z0, [(false, [.tr true (T.int IntKind.i64 x56)])]⟩), (60, ⟨z0, []⟩)]
theorem round_iReused_1 (a : Wd) (b : Wd) (x20 : Int) (x56 : Int) (n : Nat) (K : Ex → St → Res) : roundAt prog (tabS []) kp_iReused F_iReused [1, 1, 0, 1, 0] n (st_iReused_1 a b x20 x56) K = (
 bif decide (x56 < if (↑b.l.length : Int) < (↑a.l.length : Int) then (↑b.3.length : Int) else (↑a.3.length : Int)) then
  gd (decide (0 ≤ x56) && (x56.toNat.blt b.3.length && true)) <|
  gd (T.isI IntKind.i64 (atL Nd.cs b.3 x56.toNat 1)) <|
  gd (decide (0 ≤ x56) && (x56.toNat.blt a.3.length && true)) <|
  gd (T.isI IntKind.i64 (atL Nd.cs a.3 x56.toNat 1)) <|
  bif decide ((atL Nd.cs a.3 x56.toNat 1).toI < (atL Nd.cs b.3 x56.toNat 1).toI) then
   K .normal (st_iReused_1 a b (IntKind.i64.wrap (x20 + 1)) (IntKind.i64.wrap (x56 + 1)))
  else
  gd (decide (0 ≤ x56) && (x56.toNat.blt b.3.length && true)) <|
  gd (T.isI IntKind.i64 (atL Nd.cs b.3 x56.toNat 0)) <|
  bif (atL Nd.cs b.3 x56.toNat 0).toI == 3 then
   gd (decide (0 ≤ x56) && (x56.toNat.blt a.3.length && true)) <|
   gd (T.isI IntKind.i64 (atL Nd.cs a.3 x56.toNat 0)) <|
   bif (atL Nd.cs a.3 x56.toNat 0).toI != 3 then
    K .normal (st_iReused_1 a b (IntKind.i64.wrap (x20 + 1)) (IntKind.i64.wrap (x56 + 1)))
   else
   K .normal (st_iReused_1 a b (x20) (IntKind.i64.wrap (x56 + 1)))
  else
  K .normal (st_iReused_1 a b (x20) (IntKind.i64.wrap (x56 + 1)))
 else
 K (.exit 0) (ex_iReused_1_1 a b x20 x56)) := by kernel_rfl
theorem post_iReused_1_1 (a : Wd) (b : Wd) (x20 : Int) (x56 : Int) (n : Nat) : contAt prog (tabS []) kp_iReused F_iReused ts_iReused [1, 1, 0, 1, 0] [] n (.exit 0) (ex_iReused_1_1 a b x20 x56) = (
 some ([(false, [.tr true (T.int IntKind.i64 x20)])], [(false, []), (false, [])])) := by kernel_rfl
theorem pre_iReused (a : Wd) (b : Wd) (n : Nat) : body prog (tabS []) kp_iReused n F_iReused [aR a.cs, aR b.cs] = (
 loopAt prog (tabS []) kp_iReused F_iReused [1, 1, 0, 1, 0] n n (st_iReused_1 a b (0) (0)) (contAt prog (tabS []) kp_iReused F_iReused ts_iReused [1, 1, 0, 1, 0] [] n)) := by kernel_rfl
theorem body_iReused (a : Wd) (b : Wd) (h : ok_iReused (a, b)) : body prog (tabS []) kp_iReused (a.l.length + 1) F_iReused (ea_iReused (a, b)) = some (erI 2 (f_iReused (a, b))) := by
  have hlm := lm
  obtain ⟨hl0, hl1⟩ : a.l.length ≤ LM ∧ b.l.length ≤ LM := h
  unfold ea_iReused f_iReused
  try dsimp only
  rw [pre_iReused]
  obtain ⟨N, hN⟩ : ∃ N, N = min a.l.length b.l.length := ⟨_, rfl⟩
  have hst : st_iReused_1 a b 0 0 = (fun i : Nat => st_iReused_1 a b (rusN a.l b.l i) (i : Nat)) 0 := rfl
  rw [hst, forLoop N (fun i : Nat => st_iReused_1 a b (rusN a.l b.l i) (i : Nat)) (ex_iReused_1_1 a b (rusN a.l b.l N) N) 0 (fun i K hi => ?_) (fun K => ?_) _ (by omega)]
  · rw [post_iReused_1_1, hN]
    rfl
  · have hi1 : i < a.l.length := by omega
    have hi2 : i < b.l.length := by omega
    have hx := List.getElem?_eq_getElem hi1
    have hy := List.getElem?_eq_getElem hi2
    obtain ⟨x, hxe⟩ : ∃ x, x = a.l[i] := ⟨_, rfl⟩
    obtain ⟨y, hye⟩ : ∃ y, y = b.l[i] := ⟨_, rfl⟩
    rw [← hxe] at hx
    rw [← hye] at hy
    have e : rusN a.l b.l (i + 1) = bif rusP x y then IntKind.i64.wrap (rusN a.l b.l i + 1) else rusN a.l b.l i := by simp only [rusN, hx, hy]
    rw [round_iReused_1, e]
    have hm : i < min a.l.length b.l.length := by omega
    simp (disch := omega) only [lt_d, ge0_d, Int.toNat_natCast, blt_d, ble_self, beq_self, decide_true, cond_true, Bool.and_self, Bool.and_true, Bool.true_and, gd_true, Nat.zero_add, List.getD_cons_zero, List.getD_cons_succ, isI_int, toI_int, isB_bool, toB_bool, eL_T, arr_ln, arr_fn, arr_wd, arr_is, arr_get, min_if, hm, hi1, hi2, atL_of hx, atL_of hy, Nd.cs, wrapS, int_eq, int_ne]
    by_cases h1 : x.gen < y.gen
    · simp [rusP, h1]
    · by_cases h2 : y.st = 3
      · by_cases h3 : x.st = 3
        · simp [rusP, h1, h2, h3]
        · simp [rusP, h1, h2, h3]
      · simp [rusP, h1, h2]
  · rw [round_iReused_1]
    simp only [min_if, lt_d]
    rw [decide_eq_false (show ¬ N < min a.l.length b.l.length by omega)]; rfl
theorem s_iReused : EntOk prog i_iReused e_iReused := ent_ok ea_iReused_inj fun x hx =>
  body_sound (φ := (tabS [])) tabS_nil mixed (kp := kp_iReused) (n := x.1.l.length + 1) func18 (c := bodyOf F_iReused) (by kernel_rfl) (body_iReused x.1 x.2 hx) (name_ok (by kernel_rfl))
def ok_sReused (x : Wd × Wd) : Prop := x.1.l.length ≤ LM ∧ x.2.l.length ≤ LM
def ea_sReused (x : Wd × Wd) : List Arg := [aR x.1.cs, aR x.2.cs]
def f_sReused (x : Wd × Wd) : Int := rus x.1.l x.2.l
noncomputable def e_sReused : Ent := ent [] ok_sReused ea_sReused (erI 2) f_sReused
theorem ea_sReused_inj (x y : Wd × Wd) (h : ea_sReused x = ea_sReused y) : x = y := by
  obtain ⟨a1, b1⟩ := x
  obtain ⟨a2, b2⟩ := y
  simp only [ea_sReused, List.cons.injEq, and_true, true_and] at h
  obtain ⟨e0, e1⟩ := h
  obtain rfl := Wd.cs_ext (aR_inj e0)
  obtain rfl := Wd.cs_ext (aR_inj e1)
  rfl
theorem dm_sReused {a : Wd} {b : Wd} (h : ok_sReused (a, b)) : dom ok_sReused ea_sReused [(0, true, [C.tr false (T.int IntKind.i64 a.c.chunks), C.tr false (T.int IntKind.i64 a.c.size), C.tr false (T.int IntKind.i64 a.c.slots), C.tr false (T.int IntKind.i64 a.c.tax), C.tr false (T.int IntKind.i64 a.c.slice), C.tr false (T.int IntKind.i64 a.c.gens), C.tr false (T.arr 1 a.p.mem.length (atL rowB a.p.mem)), C.tr false (T.arr 1 a.p.st.length (atL rowI a.p.st)), C.tr false (T.arr 1 a.p.own.length (atL rowI a.p.own)), C.tr false (T.arr 13 a.l.length (atL Nd.cs a.l)), C.tr false (T.arr 5 a.q.length (atL Ws.cs a.q)), C.tr false (T.arr 1 a.log.length (atL rowI a.log))]), (0, true, [C.tr false (T.int IntKind.i64 b.c.chunks), C.tr false (T.int IntKind.i64 b.c.size), C.tr false (T.int IntKind.i64 b.c.slots), C.tr false (T.int IntKind.i64 b.c.tax), C.tr false (T.int IntKind.i64 b.c.slice), C.tr false (T.int IntKind.i64 b.c.gens), C.tr false (T.arr 1 b.p.mem.length (atL rowB b.p.mem)), C.tr false (T.arr 1 b.p.st.length (atL rowI b.p.st)), C.tr false (T.arr 1 b.p.own.length (atL rowI b.p.own)), C.tr false (T.arr 13 b.l.length (atL Nd.cs b.l)), C.tr false (T.arr 5 b.q.length (atL Ws.cs b.q)), C.tr false (T.arr 1 b.log.length (atL rowI b.log))])] = true := dom_ea (ea := ea_sReused) (x := (a, b)) h
theorem iv_sReused {a : Wd} {b : Wd} (h : ok_sReused (a, b)) : inv ok_sReused ea_sReused [(0, true, [C.tr false (T.int IntKind.i64 a.c.chunks), C.tr false (T.int IntKind.i64 a.c.size), C.tr false (T.int IntKind.i64 a.c.slots), C.tr false (T.int IntKind.i64 a.c.tax), C.tr false (T.int IntKind.i64 a.c.slice), C.tr false (T.int IntKind.i64 a.c.gens), C.tr false (T.arr 1 a.p.mem.length (atL rowB a.p.mem)), C.tr false (T.arr 1 a.p.st.length (atL rowI a.p.st)), C.tr false (T.arr 1 a.p.own.length (atL rowI a.p.own)), C.tr false (T.arr 13 a.l.length (atL Nd.cs a.l)), C.tr false (T.arr 5 a.q.length (atL Ws.cs a.q)), C.tr false (T.arr 1 a.log.length (atL rowI a.log))]), (0, true, [C.tr false (T.int IntKind.i64 b.c.chunks), C.tr false (T.int IntKind.i64 b.c.size), C.tr false (T.int IntKind.i64 b.c.slots), C.tr false (T.int IntKind.i64 b.c.tax), C.tr false (T.int IntKind.i64 b.c.slice), C.tr false (T.int IntKind.i64 b.c.gens), C.tr false (T.arr 1 b.p.mem.length (atL rowB b.p.mem)), C.tr false (T.arr 1 b.p.st.length (atL rowI b.p.st)), C.tr false (T.arr 1 b.p.own.length (atL rowI b.p.own)), C.tr false (T.arr 13 b.l.length (atL Nd.cs b.l)), C.tr false (T.arr 5 b.q.length (atL Ws.cs b.q)), C.tr false (T.arr 1 b.log.length (atL rowI b.log))])] = (a, b) := inv_ea ea_sReused_inj (x := (a, b)) h
theorem d_sReused (a : Wd) (b : Wd) : f_sReused (a, b) = rus a.l b.l := rfl
def i_sReused : Nat := 16
noncomputable abbrev F_sReused : Func := f16
def kp_sReused : List (Nat × List Nat) := [(0, [8, 9, 12, 13]), (1, [8, 9, 12, 13, 20]), (2, [8, 9, 12, 13, 20, 24]), (3, [8, 9, 12, 13, 20, 24, 72, 140, 144, 148, 152, 156, 160, 164, 168, 172, 176, 180, 184, 188, 192, 196, 200]), (4, [8, 9, 12, 13, 20, 24]), (5, [8, 9, 12, 13, 20, 24, 204]), (6, [8, 9, 12, 13, 20, 24]), (7, [16])]
def ts_sReused : List Nat := [0, 0]
def st_sReused_1 (a : Wd) (b : Wd) (x20 : Int) (x24 : Int) : St := [(8, ⟨z0, [(false, [(C.pt (Pt.ptr 9 0 [] 12 0 0))])]⟩), (9, ⟨z0, [(true, [.tr true (T.int IntKind.i64 a.c.1), .tr true (T.int IntKind.i64 a.c.2), .tr true (T.int IntKind.i64 a.c.3), .tr true (T.int IntKind.i64 a.c.4), .tr true (T.int IntKind.i64 a.c.5), .tr true (T.int IntKind.i64 a.c.6), .tr false (eL 1 rowB a.p.1), .tr false (eL 1 rowI a.p.2), .tr false (eL 1 rowI a.p.3), .tr false (eL 13 Nd.cs a.3), .tr false (eL 5 Ws.cs a.4), .tr false (eL 1 rowI a.5)])]⟩), (12, ⟨z0, [(false, [(C.pt (Pt.ptr 13 0 [] 12 0 0))])]⟩), (13, ⟨z0, [(true, [.tr true (T.int IntKind.i64 b.c.1), .tr true (T.int IntKind.i64 b.c.2), .tr true (T.int IntKind.i64 b.c.3), .tr true (T.int IntKind.i64 b.c.4), .tr true (T.int IntKind.i64 b.c.5), .tr true (T.int IntKind.i64 b.c.6), .tr false (eL 1 rowB b.p.1), .tr false (eL 1 rowI b.p.2), .tr false (eL 1 rowI b.p.3), .tr false (eL 13 Nd.cs b.3), .tr false (eL 5 Ws.cs b.4), .tr false (eL 1 rowI b.5)])]⟩), (20, ⟨z0, [(false, [.tr true (T.int IntKind.i64 x20)])]⟩), (24, ⟨z0, [(false, [.tr true (T.int IntKind.i64 x24)])]⟩)]
def ex_sReused_1_1 (a : Wd) (b : Wd) (x20 : Int) (x24 : Int) : St := [(8, ⟨z0, [(false, [(C.pt (Pt.ptr 9 0 [] 12 0 0))])]⟩), (9, ⟨z0, [(true, [.tr true (T.int IntKind.i64 a.c.1), .tr true (T.int IntKind.i64 a.c.2), .tr true (T.int IntKind.i64 a.c.3), .tr true (T.int IntKind.i64 a.c.4), .tr true (T.int IntKind.i64 a.c.5), .tr true (T.int IntKind.i64 a.c.6), .tr false (eL 1 rowB a.p.1), .tr false (eL 1 rowI a.p.2), .tr false (eL 1 rowI a.p.3), .tr false (eL 13 Nd.cs a.3), .tr false (eL 5 Ws.cs a.4), .tr false (eL 1 rowI a.5)])]⟩), (12, ⟨z0, [(false, [(C.pt (Pt.ptr 13 0 [] 12 0 0))])]⟩), (13, ⟨z0, [(true, [.tr true (T.int IntKind.i64 b.c.1), .tr true (T.int IntKind.i64 b.c.2), .tr true (T.int IntKind.i64 b.c.3), .tr true (T.int IntKind.i64 b.c.4), .tr true (T.int IntKind.i64 b.c.5), .tr true (T.int IntKind.i64 b.c.6), .tr false (eL 1 rowB b.p.1), .tr false (eL 1 rowI b.p.2), .tr false (eL 1 rowI b.p.3), .tr false (eL 13 Nd.cs b.3), .tr false (eL 5 Ws.cs b.4), .tr false (eL 1 rowI b.5)])]⟩), (20, ⟨z0, [(false, [.tr true (T.int IntKind.i64 x20)])]⟩), (24, ⟨z0, [(false, [.tr true (T.int IntKind.i64 x24)])]⟩), (72, ⟨z0, []⟩)]
theorem round_sReused_1 (a : Wd) (b : Wd) (x20 : Int) (x24 : Int) (n : Nat) (K : Ex → St → Res) : roundAt prog (tabS []) kp_sReused F_sReused [1, 1, 0, 1, 0] n (st_sReused_1 a b x20 x24) K = (
 bif decide (x24 < (↑a.3.length : Int)) then
  bif decide (x24 < (↑b.3.length : Int)) then
   gd (decide (0 ≤ x24) && (x24.toNat.blt b.3.length && true)) <|
   gd (T.isI IntKind.i64 (atL Nd.cs b.3 x24.toNat 1)) <|
   gd (decide (0 ≤ x24) && (x24.toNat.blt a.3.length && true)) <|
   gd (T.isI IntKind.i64 (atL Nd.cs a.3 x24.toNat 1)) <|
   bif decide ((atL Nd.cs a.3 x24.toNat 1).toI < (atL Nd.cs b.3 x24.toNat 1).toI) then
    K .normal (st_sReused_1 a b (IntKind.i64.wrap (x20 + 1)) (IntKind.i64.wrap (x24 + 1)))
   else
   gd (decide (0 ≤ x24) && (x24.toNat.blt b.3.length && true)) <|
   gd (T.isI IntKind.i64 (atL Nd.cs b.3 x24.toNat 0)) <|
   bif (atL Nd.cs b.3 x24.toNat 0).toI == 3 then
    gd (decide (0 ≤ x24) && (x24.toNat.blt a.3.length && true)) <|
    gd (T.isI IntKind.i64 (atL Nd.cs a.3 x24.toNat 0)) <|
    bif (atL Nd.cs a.3 x24.toNat 0).toI != 3 then
     K .normal (st_sReused_1 a b (IntKind.i64.wrap (x20 + 1)) (IntKind.i64.wrap (x24 + 1)))
    else
    K .normal (st_sReused_1 a b (x20) (IntKind.i64.wrap (x24 + 1)))
   else
   K .normal (st_sReused_1 a b (x20) (IntKind.i64.wrap (x24 + 1)))
  else
  K (.exit 0) (ex_sReused_1_1 a b x20 x24)
 else
 K (.exit 0) (ex_sReused_1_1 a b x20 x24)) := by kernel_rfl
theorem post_sReused_1_1 (a : Wd) (b : Wd) (x20 : Int) (x24 : Int) (n : Nat) : contAt prog (tabS []) kp_sReused F_sReused ts_sReused [1, 1, 0, 1, 0] [] n (.exit 0) (ex_sReused_1_1 a b x20 x24) = (
 some ([(false, [.tr true (T.int IntKind.i64 x20)])], [(false, []), (false, [])])) := by kernel_rfl
theorem pre_sReused (a : Wd) (b : Wd) (n : Nat) : body prog (tabS []) kp_sReused n F_sReused [aR a.cs, aR b.cs] = (
 loopAt prog (tabS []) kp_sReused F_sReused [1, 1, 0, 1, 0] n n (st_sReused_1 a b (0) (0)) (contAt prog (tabS []) kp_sReused F_sReused ts_sReused [1, 1, 0, 1, 0] [] n)) := by kernel_rfl
theorem body_sReused (a : Wd) (b : Wd) (h : ok_sReused (a, b)) : body prog (tabS []) kp_sReused (a.l.length + 1) F_sReused (ea_sReused (a, b)) = some (erI 2 (f_sReused (a, b))) := by
  have hlm := lm
  obtain ⟨hl0, hl1⟩ : a.l.length ≤ LM ∧ b.l.length ≤ LM := h
  unfold ea_sReused f_sReused
  try dsimp only
  rw [pre_sReused]
  obtain ⟨N, hN⟩ : ∃ N, N = min a.l.length b.l.length := ⟨_, rfl⟩
  have hst : st_sReused_1 a b 0 0 = (fun i : Nat => st_sReused_1 a b (rusN a.l b.l i) (i : Nat)) 0 := rfl
  rw [hst, forLoop N (fun i : Nat => st_sReused_1 a b (rusN a.l b.l i) (i : Nat)) (ex_sReused_1_1 a b (rusN a.l b.l N) N) 0 (fun i K hi => ?_) (fun K => ?_) _ (by omega)]
  · rw [post_sReused_1_1, hN]
    rfl
  · have hi1 : i < a.l.length := by omega
    have hi2 : i < b.l.length := by omega
    have hx := List.getElem?_eq_getElem hi1
    have hy := List.getElem?_eq_getElem hi2
    obtain ⟨x, hxe⟩ : ∃ x, x = a.l[i] := ⟨_, rfl⟩
    obtain ⟨y, hye⟩ : ∃ y, y = b.l[i] := ⟨_, rfl⟩
    rw [← hxe] at hx
    rw [← hye] at hy
    have e : rusN a.l b.l (i + 1) = bif rusP x y then IntKind.i64.wrap (rusN a.l b.l i + 1) else rusN a.l b.l i := by simp only [rusN, hx, hy]
    rw [round_sReused_1, e]
    have hm : i < min a.l.length b.l.length := by omega
    simp (disch := omega) only [lt_d, ge0_d, Int.toNat_natCast, blt_d, ble_self, beq_self, decide_true, cond_true, Bool.and_self, Bool.and_true, Bool.true_and, gd_true, Nat.zero_add, List.getD_cons_zero, List.getD_cons_succ, isI_int, toI_int, isB_bool, toB_bool, eL_T, arr_ln, arr_fn, arr_wd, arr_is, arr_get, min_if, hm, hi1, hi2, atL_of hx, atL_of hy, Nd.cs, wrapS, int_eq, int_ne]
    by_cases h1 : x.gen < y.gen
    · simp [rusP, h1]
    · by_cases h2 : y.st = 3
      · by_cases h3 : x.st = 3
        · simp [rusP, h1, h2, h3]
        · simp [rusP, h1, h2, h3]
      · simp [rusP, h1, h2]
  · rw [round_sReused_1]
    simp only [min_if, lt_d]
    by_cases h1 : N < a.l.length
    · rw [decide_eq_true h1, decide_eq_false (show ¬ N < b.l.length by omega)]; rfl
    · rw [decide_eq_false h1]; rfl
theorem s_sReused : EntOk prog i_sReused e_sReused := ent_ok ea_sReused_inj fun x hx =>
  body_sound (φ := (tabS [])) tabS_nil mixed (kp := kp_sReused) (n := x.1.l.length + 1) func16 (c := bodyOf F_sReused) (by kernel_rfl) (body_sReused x.1 x.2 hx) (name_ok (by kernel_rfl))
end Go.Mach.F