/- StillGone. Conditions: none. -/
import Derived.Test.YtkbhcdenfigpoaaXa
import Derived.Test.YtkbhcdenfigpoaaWb
import Derived.Test.YtkbhcdenfigpoaaFo
set_option linter.all false
namespace Go.Mach.F
open Go Go.Mach Go.Proofs.Try
--=set_option maxRecDepth 100000
def sgnP (x y : Nd) : Bool := (decide (x.st = 2) && decide (y.st = 2)) && decide (x.gen = y.gen)
def sgnN (l r : List Nd) : Nat → List Int
  | 0 => []
  | i + 1 => match l[i]?, r[i]? with
    | some x, some y => bif sgnP x y then sgnN l r i ++ [(i : Int)] else sgnN l r i
    | _, _ => sgnN l r i
def sgn (l r : List Nd) : List Int := sgnN l r (min l.length r.length)
theorem sgnN_len (l r : List Nd) : ∀ i, (sgnN l r i).length ≤ i
  | 0 => by simp [sgnN]
  | i + 1 => by
    have ih := sgnN_len l r i
    unfold sgnN
    split
    · rename_i x y _ _
      cases sgnP x y with
      | true => simp only [cond_true, List.length_append, List.length_cons, List.length_nil]; omega
      | false => simp only [cond_false]; omega
    · omega
def ok_iStillGone (x : Wd × Wd) : Prop := x.1.l.length ≤ LM ∧ x.2.l.length ≤ LM
def ea_iStillGone (x : Wd × Wd) : List Arg := [aR x.1.cs, aR x.2.cs]
def f_iStillGone (x : Wd × Wd) : List Int := sgn x.1.l x.2.l
noncomputable def e_iStillGone : Ent := ent [] ok_iStillGone ea_iStillGone (fun r => erT 2 (eI r)) f_iStillGone
theorem ea_iStillGone_inj (x y : Wd × Wd) (h : ea_iStillGone x = ea_iStillGone y) : x = y := by
  obtain ⟨a1, b1⟩ := x
  obtain ⟨a2, b2⟩ := y
  simp only [ea_iStillGone, List.cons.injEq, and_true, true_and] at h
  obtain ⟨e0, e1⟩ := h
  obtain rfl := Wd.cs_ext (aR_inj e0)
  obtain rfl := Wd.cs_ext (aR_inj e1)
  rfl
theorem dm_iStillGone {a : Wd} {b : Wd} (h : ok_iStillGone (a, b)) : dom ok_iStillGone ea_iStillGone [(0, true, [C.tr false (T.int IntKind.i64 a.c.chunks), C.tr false (T.int IntKind.i64 a.c.size), C.tr false (T.int IntKind.i64 a.c.slots), C.tr false (T.int IntKind.i64 a.c.tax), C.tr false (T.int IntKind.i64 a.c.slice), C.tr false (T.int IntKind.i64 a.c.gens), C.tr false (T.arr 1 a.p.mem.length (atL rowB a.p.mem)), C.tr false (T.arr 1 a.p.st.length (atL rowI a.p.st)), C.tr false (T.arr 1 a.p.own.length (atL rowI a.p.own)), C.tr false (T.arr 13 a.l.length (atL Nd.cs a.l)), C.tr false (T.arr 5 a.q.length (atL Ws.cs a.q)), C.tr false (T.arr 1 a.log.length (atL rowI a.log))]), (0, true, [C.tr false (T.int IntKind.i64 b.c.chunks), C.tr false (T.int IntKind.i64 b.c.size), C.tr false (T.int IntKind.i64 b.c.slots), C.tr false (T.int IntKind.i64 b.c.tax), C.tr false (T.int IntKind.i64 b.c.slice), C.tr false (T.int IntKind.i64 b.c.gens), C.tr false (T.arr 1 b.p.mem.length (atL rowB b.p.mem)), C.tr false (T.arr 1 b.p.st.length (atL rowI b.p.st)), C.tr false (T.arr 1 b.p.own.length (atL rowI b.p.own)), C.tr false (T.arr 13 b.l.length (atL Nd.cs b.l)), C.tr false (T.arr 5 b.q.length (atL Ws.cs b.q)), C.tr false (T.arr 1 b.log.length (atL rowI b.log))])] = true := dom_ea (ea := ea_iStillGone) (x := (a, b)) h
theorem iv_iStillGone {a : Wd} {b : Wd} (h : ok_iStillGone (a, b)) : inv ok_iStillGone ea_iStillGone [(0, true, [C.tr false (T.int IntKind.i64 a.c.chunks), C.tr false (T.int IntKind.i64 a.c.size), C.tr false (T.int IntKind.i64 a.c.slots), C.tr false (T.int IntKind.i64 a.c.tax), C.tr false (T.int IntKind.i64 a.c.slice), C.tr false (T.int IntKind.i64 a.c.gens), C.tr false (T.arr 1 a.p.mem.length (atL rowB a.p.mem)), C.tr false (T.arr 1 a.p.st.length (atL rowI a.p.st)), C.tr false (T.arr 1 a.p.own.length (atL rowI a.p.own)), C.tr false (T.arr 13 a.l.length (atL Nd.cs a.l)), C.tr false (T.arr 5 a.q.length (atL Ws.cs a.q)), C.tr false (T.arr 1 a.log.length (atL rowI a.log))]), (0, true, [C.tr false (T.int IntKind.i64 b.c.chunks), C.tr false (T.int IntKind.i64 b.c.size), C.tr false (T.int IntKind.i64 b.c.slots), C.tr false (T.int IntKind.i64 b.c.tax), C.tr false (T.int IntKind.i64 b.c.slice), C.tr false (T.int IntKind.i64 b.c.gens), C.tr false (T.arr 1 b.p.mem.length (atL rowB b.p.mem)), C.tr false (T.arr 1 b.p.st.length (atL rowI b.p.st)), C.tr false (T.arr 1 b.p.own.length (atL rowI b.p.own)), C.tr false (T.arr 13 b.l.length (atL Nd.cs b.l)), C.tr false (T.arr 5 b.q.length (atL Ws.cs b.q)), C.tr false (T.arr 1 b.log.length (atL rowI b.log))])] = (a, b) := inv_ea ea_iStillGone_inj (x := (a, b)) h
theorem d_iStillGone (a : Wd) (b : Wd) : f_iStillGone (a, b) = sgn a.l b.l := rfl
def i_iStillGone : Nat := 41
noncomputable abbrev F_iStillGone : Func := f41
def kp_iStillGone : List (Nat × List Nat) := [(0, [8, 9, 12, 13]), (1, [8, 9, 12, 13, 20]), (2, [8, 9, 12, 13, 20, 56, 60]), (3, [8, 9, 12, 13, 20, 56, 60, 64, 104, 108, 112, 116, 120, 124, 128, 140, 144, 148, 152, 156, 160, 164, 168, 172, 176, 180, 184, 188]), (4, [8, 9, 12, 13, 20, 24, 56, 60, 104, 108, 112, 116, 120, 124, 128, 140, 144, 148, 152, 156, 160, 164, 168, 172, 176, 180, 184, 188]), (5, [8, 9, 12, 13, 20, 24, 56, 60, 192]), (6, [8, 9, 12, 13, 20, 56, 60]), (7, [8, 9, 12, 13, 20, 56, 60]), (8, [16])]
def ts_iStillGone : List Nat := [0, 0]
def st_iStillGone_1 (a : Wd) (b : Wd) (nx20 : Nat) (fx20 : Nat → Nat → T) (x60 : Int) : St := [(8, ⟨z0, [(false, [(C.pt (Pt.ptr 9 0 [] 12 0 0))])]⟩), (9, ⟨z0, [(true, [.tr true (T.int IntKind.i64 a.c.1), .tr true (T.int IntKind.i64 a.c.2), .tr true (T.int IntKind.i64 a.c.3), .tr true (T.int IntKind.i64 a.c.4), .tr true (T.int IntKind.i64 a.c.5), .tr true (T.int IntKind.i64 a.c.6), .tr false (eL 1 rowB a.p.1), .tr false (eL 1 rowI a.p.2), .tr false (eL 1 rowI a.p.3), .tr false (eL 13 Nd.cs a.3), .tr false (eL 5 Ws.cs a.4), .tr false (eL 1 rowI a.5)])]⟩), (12, ⟨z0, [(false, [(C.pt (Pt.ptr 13 0 [] 12 0 0))])]⟩), (13, ⟨z0, [(true, [.tr true (T.int IntKind.i64 b.c.1), .tr true (T.int IntKind.i64 b.c.2), .tr true (T.int IntKind.i64 b.c.3), .tr true (T.int IntKind.i64 b.c.4), .tr true (T.int IntKind.i64 b.c.5), .tr true (T.int IntKind.i64 b.c.6), .tr false (eL 1 rowB b.p.1), .tr false (eL 1 rowI b.p.2), .tr false (eL 1 rowI b.p.3), .tr false (eL 13 Nd.cs b.3), .tr false (eL 5 Ws.cs b.4), .tr false (eL 1 rowI b.5)])]⟩), (20, ⟨z0, [(false, [.tr true (.arr (1) (nx20) (fx20))])]⟩), (56, ⟨z0, [(false, [.tr true (T.int IntKind.i64 (if (↑b.l.length : Int) < (↑a.l.length : Int) then (↑b.3.length : Int) else (↑a.3.length : Int)))])]⟩), (60, ⟨z0, [(false, [.tr true (T.int IntKind.i64 x60)])]⟩)]
def ex_iStillGone_1_1 (a : Wd) (b : Wd) (nx20 : Nat) (fx20 : Nat → Nat → T) (x60 : Int) : St := [(8, ⟨z0, [(false, [(C.pt (Pt.ptr 9 0 [] 12 0 0))])]⟩), (9, ⟨z0, [(true, [.tr true (T.int IntKind.i64 a.c.1), .tr true (T.int IntKind.i64 a.c.2), .tr true (T.int IntKind.i64 a.c.3), .tr true (T.int IntKind.i64 a.c.4), .tr true (T.int IntKind.i64 a.c.5), .tr true (T.int IntKind.i64 a.c.6), .tr false (eL 1 rowB a.p.1), .tr false (eL 1 rowI a.p.2), .tr false (eL 1 rowI a.p.3), .tr false (eL 13 Nd.cs a.3), .tr false (eL 5 Ws.cs a.4), .tr false (eL 1 rowI a.5)])]⟩), (12, ⟨z0, [(false, [(C.pt (Pt.ptr 13 0 [] 12 0 0))])]⟩), (13, ⟨z0, [(true, [.tr true (T.int IntKind.i64 b.c.1), .tr true (T.int IntKind.i64 b.c.2), .tr true (T.int IntKind.i64 b.c.3), .tr true (T.int IntKind.i64 b.c.4), .tr true (T.int IntKind.i64 b.c.5), .tr true (T.int IntKind.i64 b.c.6), .tr false (eL 1 rowB b.p.1), .tr false (eL 1 rowI b.p.2), .tr false (eL 1 rowI b.p.3), .tr false (eL 13 Nd.cs b.3), .tr false (eL 5 Ws.cs b.4), .tr false (eL 1 rowI b.5)])]⟩), (20, ⟨z0, [(false, [.tr true (.arr (1) (nx20) (fx20))])]⟩), (56, ⟨z0, [(false, [.tr true (T.int IntKind.i64 (if (↑b.l.length : Int) < (↑a.l.length : Int) then (↑b.3.length : Int) else (↑a.3.length : Int)))])]⟩), (60, ⟨z0, [(false, [.tr true (T.int IntKind.i64 x60)])]⟩), (64, ⟨z0, []⟩)]
theorem round_iStillGone_1 (a : Wd) (b : Wd) (nx20 : Nat) (fx20 : Nat → Nat → T) (x60 : Int) (n : Nat) (K : Ex → St → Res) : roundAt prog (tabS []) kp_iStillGone F_iStillGone [1, 1, 0, 1, 0] n (st_iStillGone_1 a b nx20 fx20 x60) K = (
 bif decide (x60 < if (↑b.l.length : Int) < (↑a.l.length : Int) then (↑b.3.length : Int) else (↑a.3.length : Int)) then
  gd (decide (0 ≤ x60) && (x60.toNat.blt a.3.length && true)) <|
  gd (T.isI IntKind.i64 (atL Nd.cs a.3 x60.toNat 0)) <|
  bif (atL Nd.cs a.3 x60.toNat 0).toI == 2 then
   gd (decide (0 ≤ x60) && (x60.toNat.blt b.3.length && true)) <|
   gd (T.isI IntKind.i64 (atL Nd.cs b.3 x60.toNat 0)) <|
   bif (atL Nd.cs b.3 x60.toNat 0).toI == 2 then
    gd (decide (0 ≤ x60) && (x60.toNat.blt a.3.length && true)) <|
    gd (T.isI IntKind.i64 (atL Nd.cs a.3 x60.toNat 1)) <|
    gd (decide (0 ≤ x60) && (x60.toNat.blt b.3.length && true)) <|
    gd (T.isI IntKind.i64 (atL Nd.cs b.3 x60.toNat 1)) <|
    bif (atL Nd.cs a.3 x60.toNat 1).toI == (atL Nd.cs b.3 x60.toNat 1).toI then
     gd (nx20.ble nx20 && true) <|
     gd (((nx20 + 1) * 8).ble 70368744177664 && (nx20 + 1).ble 70368744177664) <|
     gd ((nx20 + 1).ble (nx20 + 1) && true) <|
     K .normal (st_iStillGone_1 a b (nx20 + 1) (appF nx20 fx20
  (plainF
    (cutT 0 1 fun j k =>
      Option.rec ((fun _ => T.hole) ()) (fun val => (fun val => (fun x => x) val) val)
        ([[T.int IntKind.i64 x60]].getD j [])[k]?))) (IntKind.i64.wrap (x60 + 1)))
    else
    K .normal (st_iStillGone_1 a b (nx20) (fx20) (IntKind.i64.wrap (x60 + 1)))
   else
   K .normal (st_iStillGone_1 a b (nx20) (fx20) (IntKind.i64.wrap (x60 + 1)))
  else
  K .normal (st_iStillGone_1 a b (nx20) (fx20) (IntKind.i64.wrap (x60 + 1)))
 else
 K (.exit 0) (ex_iStillGone_1_1 a b nx20 fx20 x60)) := by kernel_rfl
theorem post_iStillGone_1_1 (a : Wd) (b : Wd) (nx20 : Nat) (fx20 : Nat → Nat → T) (x60 : Int) (n : Nat) : contAt prog (tabS []) kp_iStillGone F_iStillGone ts_iStillGone [1, 1, 0, 1, 0] [] n (.exit 0) (ex_iStillGone_1_1 a b nx20 fx20 x60) = (
 gd (nx20.ble nx20 && true) <|
 gd (nx20.ble nx20 && true) <|
 some ([(false, [.tr true (.arr (1) (nx20) (fx20))])], [(false, []), (false, [])])) := by kernel_rfl
theorem pre_iStillGone (a : Wd) (b : Wd) (n : Nat) : body prog (tabS []) kp_iStillGone n F_iStillGone [aR a.cs, aR b.cs] = (
 loopAt prog (tabS []) kp_iStillGone F_iStillGone [1, 1, 0, 1, 0] n n (st_iStillGone_1 a b (0) (fun j k => T.hole) (0)) (contAt prog (tabS []) kp_iStillGone F_iStillGone ts_iStillGone [1, 1, 0, 1, 0] [] n)) := by kernel_rfl
theorem body_iStillGone (a b : Wd) (h : ok_iStillGone (a, b)) : body prog (tabS []) kp_iStillGone (a.l.length + 1) F_iStillGone (ea_iStillGone (a, b)) = some (erT 2 (eI (f_iStillGone (a, b)))) := by
  have hlm := lm
  obtain ⟨hl0, hl1⟩ : a.l.length ≤ LM ∧ b.l.length ≤ LM := h
  unfold ea_iStillGone f_iStillGone
  dsimp only
  rw [pre_iStillGone]
  obtain ⟨N, hN⟩ : ∃ N, N = min a.l.length b.l.length := ⟨_, rfl⟩
  obtain ⟨g, hg⟩ : ∃ g, g = sgnN a.l b.l := ⟨_, rfl⟩
  have hgl : ∀ i, (g i).length ≤ i := fun i => by rw [hg]; exact sgnN_len _ _ i
  have hst : st_iStillGone_1 a b 0 (fun j k => T.hole) 0 = (fun i : Nat => st_iStillGone_1 a b (g i).length (atL rowI (g i)) (i : Nat)) 0 := by
    rw [hg]
    rfl
  rw [hst, forLoop N (fun i : Nat => st_iStillGone_1 a b (g i).length (atL rowI (g i)) (i : Nat)) (ex_iStillGone_1_1 a b (g N).length (atL rowI (g N)) N) 0 (fun i K hi => ?_) (fun K => ?_) _ (by omega)]
  · rw [post_iStillGone_1_1]
    simp only [ble_d, Nat.le_refl, decide_true, Bool.and_true, gd_true]
    rw [hg, hN]
    rfl
  · have hi1 : i < a.l.length := by omega
    have hi2 : i < b.l.length := by omega
    have hx := List.getElem?_eq_getElem hi1
    have hy := List.getElem?_eq_getElem hi2
    obtain ⟨x, hxe⟩ : ∃ x, x = a.l[i] := ⟨_, rfl⟩
    obtain ⟨y, hye⟩ : ∃ y, y = b.l[i] := ⟨_, rfl⟩
    rw [← hxe] at hx
    rw [← hye] at hy
    have e : g (i + 1) = bif sgnP x y then g i ++ [(i : Int)] else g i := by
      rw [hg]
      simp only [sgnN, hx, hy]
    have hl := hgl i
    rw [round_iStillGone_1]
    have hm : i < min a.l.length b.l.length := by omega
    have hs : ((g i).length + 1) * 8 ≤ 70368744177664 := by omega
    have hs2 : (g i).length + 1 ≤ 70368744177664 := by omega
    simp (disch := omega) only [lt_d, ge0_d, Int.toNat_natCast, blt_d, ble_self, beq_self, decide_true, cond_true, Bool.and_self, Bool.and_true, Bool.true_and, gd_true, Nat.zero_add, List.getD_cons_zero, List.getD_cons_succ, isI_int, toI_int, isB_bool, toB_bool, eL_T, arr_ln, arr_fn, arr_wd, arr_is, arr_get, ble_d, Nat.le_refl, min_if, hm, hi1, hi2, hs, hs2, atL_of hx, atL_of hy, Nd.cs, rowI, wrapS, int_eq]
    by_cases h1 : x.st = 2
    · by_cases h2 : y.st = 2
      · by_cases h3 : x.gen = y.gen
        · rw [e, show sgnP x y = true by simp [sgnP, h1, h2, h3], decide_eq_true h1, decide_eq_true h2, decide_eq_true h3]
          simp only [cond_true]
          refine congrArg (K .normal) ?_
          have ha := app1 (g i) (i : Int)
          rw [← ha, List.length_append]
          simp only [row1]
          rfl
        · rw [e, show sgnP x y = false by simp [sgnP, h1, h2, h3], decide_eq_true h1, decide_eq_true h2, decide_eq_false h3]
          simp only [cond_true, cond_false]
      · rw [e, show sgnP x y = false by simp [sgnP, h1, h2], decide_eq_true h1, decide_eq_false h2]
        simp only [cond_true, cond_false]
    · rw [e, show sgnP x y = false by simp [sgnP, h1], decide_eq_false h1]
      simp only [cond_false]
  · rw [round_iStillGone_1]
    simp only [min_if, lt_d]
    rw [decide_eq_false (show ¬ N < min a.l.length b.l.length by omega)]; rfl
theorem s_iStillGone : EntOk prog i_iStillGone e_iStillGone := ent_ok ea_iStillGone_inj fun x hx =>
  body_sound (φ := (tabS [])) tabS_nil mixed (kp := kp_iStillGone) (n := x.1.l.length + 1) func41 (c := bodyOf F_iStillGone) (by kernel_rfl) (body_iStillGone x.1 x.2 hx) (name_ok (by kernel_rfl))
def ok_sStillGone (x : Wd × Wd) : Prop := x.1.l.length ≤ LM ∧ x.2.l.length ≤ LM
def ea_sStillGone (x : Wd × Wd) : List Arg := [aR x.1.cs, aR x.2.cs]
def f_sStillGone (x : Wd × Wd) : List Int := sgn x.1.l x.2.l
noncomputable def e_sStillGone : Ent := ent [] ok_sStillGone ea_sStillGone (fun r => erT 2 (eI r)) f_sStillGone
theorem ea_sStillGone_inj (x y : Wd × Wd) (h : ea_sStillGone x = ea_sStillGone y) : x = y := by
  obtain ⟨a1, b1⟩ := x
  obtain ⟨a2, b2⟩ := y
  simp only [ea_sStillGone, List.cons.injEq, and_true, true_and] at h
  obtain ⟨e0, e1⟩ := h
  obtain rfl := Wd.cs_ext (aR_inj e0)
  obtain rfl := Wd.cs_ext (aR_inj e1)
  rfl
theorem dm_sStillGone {a : Wd} {b : Wd} (h : ok_sStillGone (a, b)) : dom ok_sStillGone ea_sStillGone [(0, true, [C.tr false (T.int IntKind.i64 a.c.chunks), C.tr false (T.int IntKind.i64 a.c.size), C.tr false (T.int IntKind.i64 a.c.slots), C.tr false (T.int IntKind.i64 a.c.tax), C.tr false (T.int IntKind.i64 a.c.slice), C.tr false (T.int IntKind.i64 a.c.gens), C.tr false (T.arr 1 a.p.mem.length (atL rowB a.p.mem)), C.tr false (T.arr 1 a.p.st.length (atL rowI a.p.st)), C.tr false (T.arr 1 a.p.own.length (atL rowI a.p.own)), C.tr false (T.arr 13 a.l.length (atL Nd.cs a.l)), C.tr false (T.arr 5 a.q.length (atL Ws.cs a.q)), C.tr false (T.arr 1 a.log.length (atL rowI a.log))]), (0, true, [C.tr false (T.int IntKind.i64 b.c.chunks), C.tr false (T.int IntKind.i64 b.c.size), C.tr false (T.int IntKind.i64 b.c.slots), C.tr false (T.int IntKind.i64 b.c.tax), C.tr false (T.int IntKind.i64 b.c.slice), C.tr false (T.int IntKind.i64 b.c.gens), C.tr false (T.arr 1 b.p.mem.length (atL rowB b.p.mem)), C.tr false (T.arr 1 b.p.st.length (atL rowI b.p.st)), C.tr false (T.arr 1 b.p.own.length (atL rowI b.p.own)), C.tr false (T.arr 13 b.l.length (atL Nd.cs b.l)), C.tr false (T.arr 5 b.q.length (atL Ws.cs b.q)), C.tr false (T.arr 1 b.log.length (atL rowI b.log))])] = true := dom_ea (ea := ea_sStillGone) (x := (a, b)) h
theorem iv_sStillGone {a : Wd} {b : Wd} (h : ok_sStillGone (a, b)) : inv ok_sStillGone ea_sStillGone [(0, true, [C.tr false (T.int IntKind.i64 a.c.chunks), C.tr false (T.int IntKind.i64 a.c.size), C.tr false (T.int IntKind.i64 a.c.slots), C.tr false (T.int IntKind.i64 a.c.tax), C.tr false (T.int IntKind.i64 a.c.slice), C.tr false (T.int IntKind.i64 a.c.gens), C.tr false (T.arr 1 a.p.mem.length (atL rowB a.p.mem)), C.tr false (T.arr 1 a.p.st.length (atL rowI a.p.st)), C.tr false (T.arr 1 a.p.own.length (atL rowI a.p.own)), C.tr false (T.arr 13 a.l.length (atL Nd.cs a.l)), C.tr false (T.arr 5 a.q.length (atL Ws.cs a.q)), C.tr false (T.arr 1 a.log.length (atL rowI a.log))]), (0, true, [C.tr false (T.int IntKind.i64 b.c.chunks), C.tr false (T.int IntKind.i64 b.c.size), C.tr false (T.int IntKind.i64 b.c.slots), C.tr false (T.int IntKind.i64 b.c.tax), C.tr false (T.int IntKind.i64 b.c.slice), C.tr false (T.int IntKind.i64 b.c.gens), C.tr false (T.arr 1 b.p.mem.length (atL rowB b.p.mem)), C.tr false (T.arr 1 b.p.st.length (atL rowI b.p.st)), C.tr false (T.arr 1 b.p.own.length (atL rowI b.p.own)), C.tr false (T.arr 13 b.l.length (atL Nd.cs b.l)), C.tr false (T.arr 5 b.q.length (atL Ws.cs b.q)), C.tr false (T.arr 1 b.log.length (atL rowI b.log))])] = (a, b) := inv_ea ea_sStillGone_inj (x := (a, b)) h
theorem d_sStillGone (a : Wd) (b : Wd) : f_sStillGone (a, b) = sgn a.l b.l := rfl
def i_sStillGone : Nat := 40
noncomputable abbrev F_sStillGone : Func := f40
def kp_sStillGone : List (Nat × List Nat) := [(0, [8, 9, 12, 13]), (1, [8, 9, 12, 13, 20]), (2, [8, 9, 12, 13, 20, 24]), (3, [8, 9, 12, 13, 20, 24, 76, 120, 124, 128, 132, 136, 140, 144, 156, 160, 164, 168, 172, 176, 180, 184, 188, 192, 196, 200, 204]), (4, [8, 9, 12, 13, 20, 24]), (5, [8, 9, 12, 13, 20, 24, 208]), (6, [8, 9, 12, 13, 20, 24]), (7, [16])]
def ts_sStillGone : List Nat := [0, 0]
def st_sStillGone_1 (a : Wd) (b : Wd) (nx20 : Nat) (fx20 : Nat → Nat → T) (x24 : Int) : St := [(8, ⟨z0, [(false, [(C.pt (Pt.ptr 9 0 [] 12 0 0))])]⟩), (9, ⟨z0, [(true, [.tr true (T.int IntKind.i64 a.c.1), .tr true (T.int IntKind.i64 a.c.2), .tr true (T.int IntKind.i64 a.c.3), .tr true (T.int IntKind.i64 a.c.4), .tr true (T.int IntKind.i64 a.c.5), .tr true (T.int IntKind.i64 a.c.6), .tr false (eL 1 rowB a.p.1), .tr false (eL 1 rowI a.p.2), .tr false (eL 1 rowI a.p.3), .tr false (eL 13 Nd.cs a.3), .tr false (eL 5 Ws.cs a.4), .tr false (eL 1 rowI a.5)])]⟩), (12, ⟨z0, [(false, [(C.pt (Pt.ptr 13 0 [] 12 0 0))])]⟩), (13, ⟨z0, [(true, [.tr true (T.int IntKind.i64 b.c.1), .tr true (T.int IntKind.i64 b.c.2), .tr true (T.int IntKind.i64 b.c.3), .tr true (T.int IntKind.i64 b.c.4), .tr true (T.int IntKind.i64 b.c.5), .tr true (T.int IntKind.i64 b.c.6), .tr false (eL 1 rowB b.p.1), .tr false (eL 1 rowI b.p.2), .tr false (eL 1 rowI b.p.3), .tr false (eL 13 Nd.cs b.3), .tr false (eL 5 Ws.cs b.4), .tr false (eL 1 rowI b.5)])]⟩), (20, ⟨z0, [(false, [.tr true (.arr (1) (nx20) (fx20))])]⟩), (24, ⟨z0, [(false, [.tr true (T.int IntKind.i64 x24)])]⟩)]
def ex_sStillGone_1_1 (a : Wd) (b : Wd) (nx20 : Nat) (fx20 : Nat → Nat → T) (x24 : Int) : St := [(8, ⟨z0, [(false, [(C.pt (Pt.ptr 9 0 [] 12 0 0))])]⟩), (9, ⟨z0, [(true, [.tr true (T.int IntKind.i64 a.c.1), .tr true (T.int IntKind.i64 a.c.2), .tr true (T.int IntKind.i64 a.c.3), .tr true (T.int IntKind.i64 a.c.4), .tr true (T.int IntKind.i64 a.c.5), .tr true (T.int IntKind.i64 a.c.6), .tr false (eL 1 rowB a.p.1), .tr false (eL 1 rowI a.p.2), .tr false (eL 1 rowI a.p.3), .tr false (eL 13 Nd.cs a.3), .tr false (eL 5 Ws.cs a.4), .tr false (eL 1 rowI a.5)])]⟩), (12, ⟨z0, [(false, [(C.pt (Pt.ptr 13 0 [] 12 0 0))])]⟩), (13, ⟨z0, [(true, [.tr true (T.int IntKind.i64 b.c.1), .tr true (T.int IntKind.i64 b.c.2), .tr true (T.int IntKind.i64 b.c.3), .tr true (T.int IntKind.i64 b.c.4), .tr true (T.int IntKind.i64 b.c.5), .tr true (T.int IntKind.i64 b.c.6), .tr false (eL 1 rowB b.p.1), .tr false (eL 1 rowI b.p.2), .tr false (eL 1 rowI b.p.3), .tr false (eL 13 Nd.cs b.3), .tr false (eL 5 Ws.cs b.4), .tr false (eL 1 rowI b.5)])]⟩), (20, ⟨z0, [(false, [.tr true (.arr (1) (nx20) (fx20))])]⟩), (24, ⟨z0, [(false, [.tr true (T.int IntKind.i64 x24)])]⟩), (76, ⟨z0, []⟩)]
theorem round_sStillGone_1 (a : Wd) (b : Wd) (nx20 : Nat) (fx20 : Nat → Nat → T) (x24 : Int) (n : Nat) (K : Ex → St → Res) : roundAt prog (tabS []) kp_sStillGone F_sStillGone [1, 1, 0, 1, 0] n (st_sStillGone_1 a b nx20 fx20 x24) K = (
 bif decide (x24 < (↑a.3.length : Int)) then
  bif decide (x24 < (↑b.3.length : Int)) then
   gd (decide (0 ≤ x24) && (x24.toNat.blt a.3.length && true)) <|
   gd (T.isI IntKind.i64 (atL Nd.cs a.3 x24.toNat 0)) <|
   bif (atL Nd.cs a.3 x24.toNat 0).toI == 2 then
    gd (decide (0 ≤ x24) && (x24.toNat.blt b.3.length && true)) <|
    gd (T.isI IntKind.i64 (atL Nd.cs b.3 x24.toNat 0)) <|
    bif (atL Nd.cs b.3 x24.toNat 0).toI == 2 then
     gd (decide (0 ≤ x24) && (x24.toNat.blt a.3.length && true)) <|
     gd (T.isI IntKind.i64 (atL Nd.cs a.3 x24.toNat 1)) <|
     gd (decide (0 ≤ x24) && (x24.toNat.blt b.3.length && true)) <|
     gd (T.isI IntKind.i64 (atL Nd.cs b.3 x24.toNat 1)) <|
     bif (atL Nd.cs a.3 x24.toNat 1).toI == (atL Nd.cs b.3 x24.toNat 1).toI then
      gd (nx20.ble nx20 && true) <|
      gd (((nx20 + 1) * 8).ble 70368744177664 && (nx20 + 1).ble 70368744177664) <|
      gd ((nx20 + 1).ble (nx20 + 1) && true) <|
      K .normal (st_sStillGone_1 a b (nx20 + 1) (appF nx20 fx20
  (plainF
    (cutT 0 1 fun j k =>
      Option.rec ((fun _ => T.hole) ()) (fun val => (fun val => (fun x => x) val) val)
        ([[T.int IntKind.i64 x24]].getD j [])[k]?))) (IntKind.i64.wrap (x24 + 1)))
     else
     K .normal (st_sStillGone_1 a b (nx20) (fx20) (IntKind.i64.wrap (x24 + 1)))
    else
    K .normal (st_sStillGone_1 a b (nx20) (fx20) (IntKind.i64.wrap (x24 + 1)))
   else
   K .normal (st_sStillGone_1 a b (nx20) (fx20) (IntKind.i64.wrap (x24 + 1)))
  else
  K (.exit 0) (ex_sStillGone_1_1 a b nx20 fx20 x24)
 else
 K (.exit 0) (ex_sStillGone_1_1 a b nx20 fx20 x24)) := by kernel_rfl
theorem post_sStillGone_1_1 (a : Wd) (b : Wd) (nx20 : Nat) (fx20 : Nat → Nat → T) (x24 : Int) (n : Nat) : contAt prog (tabS []) kp_sStillGone F_sStillGone ts_sStillGone [1, 1, 0, 1, 0] [] n (.exit 0) (ex_sStillGone_1_1 a b nx20 fx20 x24) = (
 gd (nx20.ble nx20 && true) <|
 gd (nx20.ble nx20 && true) <|
 some ([(false, [.tr true (.arr (1) (nx20) (fx20))])], [(false, []), (false, [])])) := by kernel_rfl
theorem pre_sStillGone (a : Wd) (b : Wd) (n : Nat) : body prog (tabS []) kp_sStillGone n F_sStillGone [aR a.cs, aR b.cs] = (
 loopAt prog (tabS []) kp_sStillGone F_sStillGone [1, 1, 0, 1, 0] n n (st_sStillGone_1 a b (0) (fun j k => T.hole) (0)) (contAt prog (tabS []) kp_sStillGone F_sStillGone ts_sStillGone [1, 1, 0, 1, 0] [] n)) := by kernel_rfl
theorem body_sStillGone (a b : Wd) (h : ok_sStillGone (a, b)) : body prog (tabS []) kp_sStillGone (a.l.length + 1) F_sStillGone (ea_sStillGone (a, b)) = some (erT 2 (eI (f_sStillGone (a, b)))) := by
  have hlm := lm
  obtain ⟨hl0, hl1⟩ : a.l.length ≤ LM ∧ b.l.length ≤ LM := h
  unfold ea_sStillGone f_sStillGone
  dsimp only
  rw [pre_sStillGone]
  obtain ⟨N, hN⟩ : ∃ N, N = min a.l.length b.l.length := ⟨_, rfl⟩
  obtain ⟨g, hg⟩ : ∃ g, g = sgnN a.l b.l := ⟨_, rfl⟩
  have hgl : ∀ i, (g i).length ≤ i := fun i => by rw [hg]; exact sgnN_len _ _ i
  have hst : st_sStillGone_1 a b 0 (fun j k => T.hole) 0 = (fun i : Nat => st_sStillGone_1 a b (g i).length (atL rowI (g i)) (i : Nat)) 0 := by
    rw [hg]
    rfl
  rw [hst, forLoop N (fun i : Nat => st_sStillGone_1 a b (g i).length (atL rowI (g i)) (i : Nat)) (ex_sStillGone_1_1 a b (g N).length (atL rowI (g N)) N) 0 (fun i K hi => ?_) (fun K => ?_) _ (by omega)]
  · rw [post_sStillGone_1_1]
    simp only [ble_d, Nat.le_refl, decide_true, Bool.and_true, gd_true]
    rw [hg, hN]
    rfl
  · have hi1 : i < a.l.length := by omega
    have hi2 : i < b.l.length := by omega
    have hx := List.getElem?_eq_getElem hi1
    have hy := List.getElem?_eq_getElem hi2
    obtain ⟨x, hxe⟩ : ∃ x, x = a.l[i] := ⟨_, rfl⟩
    obtain ⟨y, hye⟩ : ∃ y, y = b.l[i] := ⟨_, rfl⟩
    rw [← hxe] at hx
    rw [← hye] at hy
    have e : g (i + 1) = bif sgnP x y then g i ++ [(i : Int)] else g i := by
      rw [hg]
      simp only [sgnN, hx, hy]
    have hl := hgl i
    rw [round_sStillGone_1]
    have hm : i < min a.l.length b.l.length := by omega
    have hs : ((g i).length + 1) * 8 ≤ 70368744177664 := by omega
    have hs2 : (g i).length + 1 ≤ 70368744177664 := by omega
    simp (disch := omega) only [lt_d, ge0_d, Int.toNat_natCast, blt_d, ble_self, beq_self, decide_true, cond_true, Bool.and_self, Bool.and_true, Bool.true_and, gd_true, Nat.zero_add, List.getD_cons_zero, List.getD_cons_succ, isI_int, toI_int, isB_bool, toB_bool, eL_T, arr_ln, arr_fn, arr_wd, arr_is, arr_get, ble_d, Nat.le_refl, min_if, hm, hi1, hi2, hs, hs2, atL_of hx, atL_of hy, Nd.cs, rowI, wrapS, int_eq]
    by_cases h1 : x.st = 2
    · by_cases h2 : y.st = 2
      · by_cases h3 : x.gen = y.gen
        · rw [e, show sgnP x y = true by simp [sgnP, h1, h2, h3], decide_eq_true h1, decide_eq_true h2, decide_eq_true h3]
          simp only [cond_true]
          refine congrArg (K .normal) ?_
          have ha := app1 (g i) (i : Int)
          rw [← ha, List.length_append]
          simp only [row1]
          rfl
        · rw [e, show sgnP x y = false by simp [sgnP, h1, h2, h3], decide_eq_true h1, decide_eq_true h2, decide_eq_false h3]
          simp only [cond_true, cond_false]
      · rw [e, show sgnP x y = false by simp [sgnP, h1, h2], decide_eq_true h1, decide_eq_false h2]
        simp only [cond_true, cond_false]
    · rw [e, show sgnP x y = false by simp [sgnP, h1], decide_eq_false h1]
      simp only [cond_false]
  · rw [round_sStillGone_1]
    simp only [min_if, lt_d]
    by_cases h1 : N < a.l.length
    · rw [decide_eq_true h1, decide_eq_false (show ¬ N < b.l.length by omega)]; rfl
    · rw [decide_eq_false h1]; rfl
theorem s_sStillGone : EntOk prog i_sStillGone e_sStillGone := ent_ok ea_sStillGone_inj fun x hx =>
  body_sound (φ := (tabS [])) tabS_nil mixed (kp := kp_sStillGone) (n := x.1.l.length + 1) func40 (c := bodyOf F_sStillGone) (by kernel_rfl) (body_sStillGone x.1 x.2 hx) (name_ok (by kernel_rfl))
def i_mkPl : Nat := 98
noncomputable abbrev F_mkPl : Func := f98
def kp_mkPl : List (Nat × List Nat) := [(0, [4, 8, 9, 2]), (1, [4, 8, 9, 2]), (2, [4, 8, 9, 2]), (3, [4, 2]), (4, [16, 2])]
noncomputable def e_mkPl : Ent := inl [1, 0] prog (tabS [(i_mkLB, e_mkLB), (i_mkLI, e_mkLI)]) kp_mkPl 0 F_mkPl
theorem s_mkPl : EntOk prog i_mkPl e_mkPl := inl_ok (tabS_cons s_mkLB (tabS_cons s_mkLI tabS_nil)) mixed (c := bodyOf F_mkPl) func98 (by kernel_rfl) (name_ok (by kernel_rfl))
def i_mkWd : Nat := 43
noncomputable abbrev F_mkWd : Func := f43
def kp_mkWd : List (Nat × List Nat) := [(0, [4, 8, 9, 2]), (1, [4, 8, 9, 2]), (2, [4, 8, 9, 2]), (3, [4, 8, 9, 2]), (4, [4, 2]), (5, [16, 2])]
noncomputable def e_mkWd : Ent := inl [1, 0] prog (tabS [(i_mkPl, e_mkPl), (i_mkNdS, e_mkNdS), (i_mkWsS, e_mkWsS), (i_mkLI, e_mkLI)]) kp_mkWd 0 F_mkWd
theorem s_mkWd : EntOk prog i_mkWd e_mkWd := inl_ok (tabS_cons s_mkPl (tabS_cons s_mkNdS (tabS_cons s_mkWsS (tabS_cons s_mkLI tabS_nil)))) mixed (c := bodyOf F_mkWd) func43 (by kernel_rfl) (name_ok (by kernel_rfl))
end Go.Mach.F