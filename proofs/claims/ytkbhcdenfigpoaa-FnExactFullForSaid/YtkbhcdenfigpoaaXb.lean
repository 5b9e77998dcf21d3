/- OwnedBy. Conditions: none. -/
import Derived.Test.YtkbhcdenfigpoaaXa
import Derived.Test.YtkbhcdenfigpoaaWb
set_option linter.all false
namespace Go.Mach.F
open Go Go.Mach Go.Proofs.Try
--=set_option maxRecDepth 100000
def ownN (st ow : List Int) (k : Int) : Nat → List Int
  | 0 => []
  | i + 1 => match st[i]?, ow[i]? with
    | some s, some u => bif decide (s = 1) && decide (u = k) then ownN st ow k i ++ [(i : Int)] else ownN st ow k i
    | _, _ => ownN st ow k i
def own (st ow : List Int) (k : Int) : List Int := ownN st ow k (min st.length ow.length)
theorem ownN_len (st ow : List Int) (k : Int) : ∀ i, (ownN st ow k i).length ≤ i
  | 0 => by simp [ownN]
  | i + 1 => by
    have ih := ownN_len st ow k i
    unfold ownN
    split
    · rename_i s u _ _
      cases (decide (s = 1) && decide (u = k)) with
      | true => simp only [cond_true, List.length_append, List.length_cons, List.length_nil]; omega
      | false => simp only [cond_false]; omega
    · omega
def ok_iOwn (x : Pl × Int) : Prop := x.1.st.length ≤ LM ∧ x.1.own.length ≤ LM
def ea_iOwn (x : Pl × Int) : List Arg := [aR x.1.cs, aI x.2]
def f_iOwn (x : Pl × Int) : List Int := own x.1.st x.1.own x.2
noncomputable def e_iOwn : Ent := ent [] ok_iOwn ea_iOwn (fun r => erT 2 (eI r)) f_iOwn
theorem ea_iOwn_inj (x y : Pl × Int) (h : ea_iOwn x = ea_iOwn y) : x = y := by
  obtain ⟨p1, k1⟩ := x
  obtain ⟨p2, k2⟩ := y
  simp only [ea_iOwn, List.cons.injEq, and_true, true_and] at h
  obtain ⟨e0, e1⟩ := h
  obtain rfl := Pl.cs_ext (aR_inj e0)
  obtain rfl := aI_inj e1
  rfl
theorem dm_iOwn {p : Pl} {k : Int} (h : ok_iOwn (p, k)) : dom ok_iOwn ea_iOwn [(0, true, [C.tr false (T.arr 1 p.mem.length (atL rowB p.mem)), C.tr false (T.arr 1 p.st.length (atL rowI p.st)), C.tr false (T.arr 1 p.own.length (atL rowI p.own))]), (0, false, [C.tr false (T.int IntKind.i64 k)])] = true := dom_ea (ea := ea_iOwn) (x := (p, k)) h
theorem iv_iOwn {p : Pl} {k : Int} (h : ok_iOwn (p, k)) : inv ok_iOwn ea_iOwn [(0, true, [C.tr false (T.arr 1 p.mem.length (atL rowB p.mem)), C.tr false (T.arr 1 p.st.length (atL rowI p.st)), C.tr false (T.arr 1 p.own.length (atL rowI p.own))]), (0, false, [C.tr false (T.int IntKind.i64 k)])] = (p, k) := inv_ea ea_iOwn_inj (x := (p, k)) h
theorem d_iOwn (p : Pl) (k : Int) : f_iOwn (p, k) = own p.st p.own k := rfl
def i_iOwn : Nat := 182
noncomputable abbrev F_iOwn : Func := f182
def kp_iOwn : List (Nat × List Nat) := [(0, [4, 8, 9]), (1, [4, 8, 9, 20]), (2, [4, 8, 9, 20, 56, 60]), (3, [4, 8, 9, 20, 56, 60, 64, 100, 104, 108, 112, 116, 120, 124]), (4, [4, 8, 9, 20, 24, 56, 60, 100, 104, 108, 112, 116, 120, 124]), (5, [4, 8, 9, 20, 24, 56, 60, 128]), (6, [4, 8, 9, 20, 56, 60]), (7, [4, 8, 9, 20, 56, 60]), (8, [16])]
def ts_iOwn : List Nat := [0, 0]
def st_iOwn_1 (p : Pl) (k : Int) (nx20 : Nat) (fx20 : Nat → Nat → T) (x60 : Int) : St := [(4, ⟨z0, [(false, [.tr true (T.int IntKind.i64 k)])]⟩), (8, ⟨z0, [(false, [(C.pt (Pt.ptr 9 0 [] 3 0 0))])]⟩), (9, ⟨z0, [(true, [.tr false (eL 1 rowB p.1), .tr false (eL 1 rowI p.2), .tr false (eL 1 rowI p.3)])]⟩), (20, ⟨z0, [(false, [.tr true (.arr (1) (nx20) (fx20))])]⟩), (56, ⟨z0, [(false, [.tr true (T.int IntKind.i64
  (if (↑p.own.length : Int) < (↑p.st.length : Int) then (↑p.3.length : Int) else (↑p.2.length : Int)))])]⟩), (60, ⟨z0, [(false, [.tr true (T.int IntKind.i64 x60)])]⟩)]
def ex_iOwn_1_1 (p : Pl) (k : Int) (nx20 : Nat) (fx20 : Nat → Nat → T) (x60 : Int) : St := [(4, ⟨z0, [(false, [.tr true (T.int IntKind.i64 k)])]⟩), (8, ⟨z0, [(false, [(C.pt (Pt.ptr 9 0 [] 3 0 0))])]⟩), (9, ⟨z0, [(true, [.tr false (eL 1 rowB p.1), .tr false (eL 1 rowI p.2), .tr false (eL 1 rowI p.3)])]⟩), (20, ⟨z0, [(false, [.tr true (.arr (1) (nx20) (fx20))])]⟩), (56, ⟨z0, [(false, [.tr true (T.int IntKind.i64
  (if (↑p.own.length : Int) < (↑p.st.length : Int) then (↑p.3.length : Int) else (↑p.2.length : Int)))])]⟩), (60, ⟨z0, [(false, [.tr true (T.int IntKind.i64 x60)])]⟩), (64, ⟨z0, []⟩)]
theorem round_iOwn_1 (p : Pl) (k : Int) (nx20 : Nat) (fx20 : Nat → Nat → T) (x60 : Int) (n : Nat) (K : Ex → St → Res) : roundAt prog (tabS []) kp_iOwn F_iOwn [1, 1, 0, 1, 0] n (st_iOwn_1 p k nx20 fx20 x60) K = (
 bif decide (x60 < if (↑p.own.length : Int) < (↑p.st.length : Int) then (↑p.3.length : Int) else (↑p.2.length : Int)) then
  gd (decide (0 ≤ x60) && (x60.toNat.blt p.2.length && true)) <|
  gd (T.isI IntKind.i64 (atL rowI p.2 x60.toNat 0)) <|
  bif (atL rowI p.2 x60.toNat 0).toI == 1 then
   gd (decide (0 ≤ x60) && (x60.toNat.blt p.3.length && true)) <|
   gd (T.isI IntKind.i64 (atL rowI p.3 x60.toNat 0)) <|
   bif (atL rowI p.3 x60.toNat 0).toI == k then
    gd (nx20.ble nx20 && true) <|
    gd (((nx20 + 1) * 8).ble 70368744177664 && (nx20 + 1).ble 70368744177664) <|
    gd ((nx20 + 1).ble (nx20 + 1) && true) <|
    K .normal (st_iOwn_1 p k (nx20 + 1) (appF nx20 fx20
  (plainF
    (cutT 0 1 fun j k =>
      Option.rec ((fun _ => T.hole) ()) (fun val => (fun val => (fun x => x) val) val)
        ([[T.int IntKind.i64 x60]].getD j [])[k]?))) (IntKind.i64.wrap (x60 + 1)))
   else
   K .normal (st_iOwn_1 p k (nx20) (fx20) (IntKind.i64.wrap (x60 + 1)))
  else
  K .normal (st_iOwn_1 p k (nx20) (fx20) (IntKind.i64.wrap (x60 + 1)))
 else
 K (.exit 0) (ex_iOwn_1_1 p k nx20 fx20 x60)) := by kernel_rfl
theorem post_iOwn_1_1 (p : Pl) (k : Int) (nx20 : Nat) (fx20 : Nat → Nat → T) (x60 : Int) (n : Nat) : contAt prog (tabS []) kp_iOwn F_iOwn ts_iOwn [1, 1, 0, 1, 0] [] n (.exit 0) (ex_iOwn_1_1 p k nx20 fx20 x60) = (
 gd (nx20.ble nx20 && true) <|
 gd (nx20.ble nx20 && true) <|
 some ([(false, [.tr true (.arr (1) (nx20) (fx20))])], [(false, []), (false, [])])) := by kernel_rfl
theorem pre_iOwn (p : Pl) (k : Int) (n : Nat) : body prog (tabS []) kp_iOwn n F_iOwn [aR p.cs, aI k] = (
 loopAt prog (tabS []) kp_iOwn F_iOwn [1, 1, 0, 1, 0] n n (st_iOwn_1 p k (0) (fun j k => T.hole) (0)) (contAt prog (tabS []) kp_iOwn F_iOwn ts_iOwn [1, 1, 0, 1, 0] [] n)) := by kernel_rfl
theorem body_iOwn (p : Pl) (k : Int) (h : ok_iOwn (p, k)) : body prog (tabS []) kp_iOwn (p.st.length + 1) F_iOwn (ea_iOwn (p, k)) = some (erT 2 (eI (f_iOwn (p, k)))) := by
  have hlm := lm
  obtain ⟨hl0, hl1⟩ : p.st.length ≤ LM ∧ p.own.length ≤ LM := h
  unfold ea_iOwn f_iOwn
  dsimp only
  rw [pre_iOwn]
  obtain ⟨N, hN⟩ : ∃ N, N = min p.st.length p.own.length := ⟨_, rfl⟩
  obtain ⟨g, hg⟩ : ∃ g, g = ownN p.st p.own k := ⟨_, rfl⟩
  have hgl : ∀ i, (g i).length ≤ i := fun i => by rw [hg]; exact ownN_len _ _ _ i
  have hst : st_iOwn_1 p k 0 (fun j k => T.hole) 0 = (fun i : Nat => st_iOwn_1 p k (g i).length (atL rowI (g i)) (i : Nat)) 0 := by
    rw [hg]
    rfl
  rw [hst, forLoop N (fun i : Nat => st_iOwn_1 p k (g i).length (atL rowI (g i)) (i : Nat)) (ex_iOwn_1_1 p k (g N).length (atL rowI (g N)) N) 0 (fun i K hi => ?_) (fun K => ?_) _ (by omega)]
  · rw [post_iOwn_1_1]
    simp only [ble_d, Nat.le_refl, decide_true, Bool.and_true, gd_true]
    rw [hg, hN]
    rfl
  · have hi1 : i < p.st.length := by omega
    have hi2 : i < p.own.length := by omega
    have hx := List.getElem?_eq_getElem hi1
    have hy := List.getElem?_eq_getElem hi2
    obtain ⟨x, hxe⟩ : ∃ x, x = p.st[i] := ⟨_, rfl⟩
    obtain ⟨y, hye⟩ : ∃ y, y = p.own[i] := ⟨_, rfl⟩
    rw [← hxe] at hx
    rw [← hye] at hy
    have e : g (i + 1) = bif decide (x = 1) && decide (y = k) then g i ++ [(i : Int)] else g i := by
      rw [hg]
      simp only [ownN, hx, hy]
    have hl := hgl i
    rw [round_iOwn_1]
    have hm : i < min p.st.length p.own.length := by omega
    have hs : ((g i).length + 1) * 8 ≤ 70368744177664 := by omega
    have hs2 : (g i).length + 1 ≤ 70368744177664 := by omega
    simp (disch := omega) only [lt_d, ge0_d, Int.toNat_natCast, blt_d, ble_self, beq_self, decide_true, cond_true, Bool.and_self, Bool.and_true, Bool.true_and, gd_true, Nat.zero_add, List.getD_cons_zero, List.getD_cons_succ, isI_int, toI_int, isB_bool, toB_bool, eL_T, arr_ln, arr_fn, arr_wd, arr_is, arr_get, ble_d, Nat.le_refl, min_if, hm, hi1, hi2, hs, hs2, atL_of hx, atL_of hy, rowI, wrapS, int_eq]
    by_cases h1 : x = 1
    · by_cases h2 : y = k
      · rw [e, decide_eq_true h1, decide_eq_true h2]
        simp only [Bool.and_self, cond_true]
        refine congrArg (K .normal) ?_
        have ha := app1 (g i) (i : Int)
        rw [← ha, List.length_append]
        simp only [row1]
        rfl
      · rw [e, decide_eq_true h1, decide_eq_false h2]
        simp only [Bool.and_false, cond_true, cond_false]
    · rw [e, decide_eq_false h1]
      simp only [Bool.false_and, cond_false]
  · rw [round_iOwn_1]
    simp only [min_if, lt_d]
    rw [decide_eq_false (show ¬ N < min p.st.length p.own.length by omega)]; rfl
theorem s_iOwn : EntOk prog i_iOwn e_iOwn := ent_ok ea_iOwn_inj fun x hx =>
  body_sound (φ := (tabS [])) tabS_nil mixed (kp := kp_iOwn) (n := x.1.st.length + 1) func182 (c := bodyOf F_iOwn) (by kernel_rfl) (body_iOwn x.1 x.2 hx) (name_ok (by kernel_rfl))
def ok_sOwn (x : Pl × Int) : Prop := x.1.st.length ≤ LM ∧ x.1.own.length ≤ LM
def ea_sOwn (x : Pl × Int) : List Arg := [aR x.1.cs, aI x.2]
def f_sOwn (x : Pl × Int) : List Int := own x.1.st x.1.own x.2
noncomputable def e_sOwn : Ent := ent [] ok_sOwn ea_sOwn (fun r => erT 2 (eI r)) f_sOwn
theorem ea_sOwn_inj (x y : Pl × Int) (h : ea_sOwn x = ea_sOwn y) : x = y := by
  obtain ⟨p1, k1⟩ := x
  obtain ⟨p2, k2⟩ := y
  simp only [ea_sOwn, List.cons.injEq, and_true, true_and] at h
  obtain ⟨e0, e1⟩ := h
  obtain rfl := Pl.cs_ext (aR_inj e0)
  obtain rfl := aI_inj e1
  rfl
theorem dm_sOwn {p : Pl} {k : Int} (h : ok_sOwn (p, k)) : dom ok_sOwn ea_sOwn [(0, true, [C.tr false (T.arr 1 p.mem.length (atL rowB p.mem)), C.tr false (T.arr 1 p.st.length (atL rowI p.st)), C.tr false (T.arr 1 p.own.length (atL rowI p.own))]), (0, false, [C.tr false (T.int IntKind.i64 k)])] = true := dom_ea (ea := ea_sOwn) (x := (p, k)) h
theorem iv_sOwn {p : Pl} {k : Int} (h : ok_sOwn (p, k)) : inv ok_sOwn ea_sOwn [(0, true, [C.tr false (T.arr 1 p.mem.length (atL rowB p.mem)), C.tr false (T.arr 1 p.st.length (atL rowI p.st)), C.tr false (T.arr 1 p.own.length (atL rowI p.own))]), (0, false, [C.tr false (T.int IntKind.i64 k)])] = (p, k) := inv_ea ea_sOwn_inj (x := (p, k)) h
theorem d_sOwn (p : Pl) (k : Int) : f_sOwn (p, k) = own p.st p.own k := rfl
def i_sOwn : Nat := 181
noncomputable abbrev F_sOwn : Func := f181
def kp_sOwn : List (Nat × List Nat) := [(0, [4, 8, 9]), (1, [4, 8, 9, 20]), (2, [4, 8, 9, 20, 24]), (3, [4, 8, 9, 20, 24, 76, 116, 120, 124, 128, 132, 136, 140]), (4, [4, 8, 9, 20, 24]), (5, [4, 8, 9, 20, 24, 144]), (6, [4, 8, 9, 20, 24]), (7, [16])]
def ts_sOwn : List Nat := [0, 0]
def st_sOwn_1 (p : Pl) (k : Int) (nx20 : Nat) (fx20 : Nat → Nat → T) (x24 : Int) : St := [(4, ⟨z0, [(false, [.tr true (T.int IntKind.i64 k)])]⟩), (8, ⟨z0, [(false, [(C.pt (Pt.ptr 9 0 [] 3 0 0))])]⟩), (9, ⟨z0, [(true, [.tr false (eL 1 rowB p.1), .tr false (eL 1 rowI p.2), .tr false (eL 1 rowI p.3)])]⟩), (20, ⟨z0, [(false, [.tr true (.arr (1) (nx20) (fx20))])]⟩), (24, ⟨z0, [(false, [.tr true (T.int IntKind.i64 x24)])]⟩)]
def ex_sOwn_1_1 (p : Pl) (k : Int) (nx20 : Nat) (fx20 : Nat → Nat → T) (x24 : Int) : St := [(4, ⟨z0, [(false, [.tr true (T.int IntKind.i64 k)])]⟩), (8, ⟨z0, [(false, [(C.pt (Pt.ptr 9 0 [] 3 0 0))])]⟩), (9, ⟨z0, [(true, [.tr false (eL 1 rowB p.1), .tr false (eL 1 rowI p.2), .tr false (eL 1 rowI p.3)])]⟩), (20, ⟨z0, [(false, [.tr true (.arr (1) (nx20) (fx20))])]⟩), (24, ⟨z0, [(false, [.tr true (T.int IntKind.i64 x24)])]⟩), (76, ⟨z0, []⟩)]
theorem round_sOwn_1 (p : Pl) (k : Int) (nx20 : Nat) (fx20 : Nat → Nat → T) (x24 : Int) (n : Nat) (K : Ex → St → Res) : roundAt prog (tabS []) kp_sOwn F_sOwn [1, 1, 0, 1, 0] n (st_sOwn_1 p k nx20 fx20 x24) K = (
 bif decide (x24 < (↑p.2.length : Int)) then
  bif decide (x24 < (↑p.3.length : Int)) then
   gd (decide (0 ≤ x24) && (x24.toNat.blt p.2.length && true)) <|
   gd (T.isI IntKind.i64 (atL rowI p.2 x24.toNat 0)) <|
   bif (atL rowI p.2 x24.toNat 0).toI == 1 then
    gd (decide (0 ≤ x24) && (x24.toNat.blt p.3.length && true)) <|
    gd (T.isI IntKind.i64 (atL rowI p.3 x24.toNat 0)) <|
    bif (atL rowI p.3 x24.toNat 0).toI == k then
     gd (nx20.ble nx20 && true) <|
     gd (((nx20 + 1) * 8).ble 70368744177664 && (nx20 + 1).ble 70368744177664) <|
     gd ((nx20 + 1).ble (nx20 + 1) && true) <|
     K .normal (st_sOwn_1 p k (nx20 + 1) (appF nx20 fx20
  (plainF
    (cutT 0 1 fun j k =>
      Option.rec ((fun _ => T.hole) ()) (fun val => (fun val => (fun x => x) val) val)
        ([[T.int IntKind.i64 x24]].getD j [])[k]?))) (IntKind.i64.wrap (x24 + 1)))
    else
    K .normal (st_sOwn_1 p k (nx20) (fx20) (IntKind.i64.wrap (x24 + 1)))
   else
   K .normal (st_sOwn_1 p k (nx20) (fx20) (IntKind.i64.wrap (x24 + 1)))
  else
  K (.exit 0) (ex_sOwn_1_1 p k nx20 fx20 x24)
 else
 K (.exit 0) (ex_sOwn_1_1 p k nx20 fx20 x24)) := by kernel_rfl
theorem post_sOwn_1_1 (p : Pl) (k : Int) (nx20 : Nat) (fx20 : Nat → Nat → T) (x24 : Int) (n : Nat) : contAt prog (tabS []) kp_sOwn F_sOwn ts_sOwn [1, 1, 0, 1, 0] [] n (.exit 0) (ex_sOwn_1_1 p k nx20 fx20 x24) = (
 gd (nx20.ble nx20 && true) <|
 gd (nx20.ble nx20 && true) <|
 some ([(false, [.tr true (.arr (1) (nx20) (fx20))])], [(false, []), (false, [])])) := by kernel_rfl
theorem pre_sOwn (p : Pl) (k : Int) (n : Nat) : body prog (tabS []) kp_sOwn n F_sOwn [aR p.cs, aI k] = (
 loopAt prog (tabS []) kp_sOwn F_sOwn [1, 1, 0, 1, 0] n n (st_sOwn_1 p k (0) (fun j k => T.hole) (0)) (contAt prog (tabS []) kp_sOwn F_sOwn ts_sOwn [1, 1, 0, 1, 0] [] n)) := by kernel_rfl
theorem body_sOwn (p : Pl) (k : Int) (h : ok_sOwn (p, k)) : body prog (tabS []) kp_sOwn (p.st.length + 1) F_sOwn (ea_sOwn (p, k)) = some (erT 2 (eI (f_sOwn (p, k)))) := by
  have hlm := lm
  obtain ⟨hl0, hl1⟩ : p.st.length ≤ LM ∧ p.own.length ≤ LM := h
  unfold ea_sOwn f_sOwn
  dsimp only
  rw [pre_sOwn]
  obtain ⟨N, hN⟩ : ∃ N, N = min p.st.length p.own.length := ⟨_, rfl⟩
  obtain ⟨g, hg⟩ : ∃ g, g = ownN p.st p.own k := ⟨_, rfl⟩
  have hgl : ∀ i, (g i).length ≤ i := fun i => by rw [hg]; exact ownN_len _ _ _ i
  have hst : st_sOwn_1 p k 0 (fun j k => T.hole) 0 = (fun i : Nat => st_sOwn_1 p k (g i).length (atL rowI (g i)) (i : Nat)) 0 := by
    rw [hg]
    rfl
  rw [hst, forLoop N (fun i : Nat => st_sOwn_1 p k (g i).length (atL rowI (g i)) (i : Nat)) (ex_sOwn_1_1 p k (g N).length (atL rowI (g N)) N) 0 (fun i K hi => ?_) (fun K => ?_) _ (by omega)]
  · rw [post_sOwn_1_1]
    simp only [ble_d, Nat.le_refl, decide_true, Bool.and_true, gd_true]
    rw [hg, hN]
    rfl
  · have hi1 : i < p.st.length := by omega
    have hi2 : i < p.own.length := by omega
    have hx := List.getElem?_eq_getElem hi1
    have hy := List.getElem?_eq_getElem hi2
    obtain ⟨x, hxe⟩ : ∃ x, x = p.st[i] := ⟨_, rfl⟩
    obtain ⟨y, hye⟩ : ∃ y, y = p.own[i] := ⟨_, rfl⟩
    rw [← hxe] at hx
    rw [← hye] at hy
    have e : g (i + 1) = bif decide (x = 1) && decide (y = k) then g i ++ [(i : Int)] else g i := by
      rw [hg]
      simp only [ownN, hx, hy]
    have hl := hgl i
    rw [round_sOwn_1]
    have hm : i < min p.st.length p.own.length := by omega
    have hs : ((g i).length + 1) * 8 ≤ 70368744177664 := by omega
    have hs2 : (g i).length + 1 ≤ 70368744177664 := by omega
    simp (disch := omega) only [lt_d, ge0_d, Int.toNat_natCast, blt_d, ble_self, beq_self, decide_true, cond_true, Bool.and_self, Bool.and_true, Bool.true_and, gd_true, Nat.zero_add, List.getD_cons_zero, List.getD_cons_succ, isI_int, toI_int, isB_bool, toB_bool, eL_T, arr_ln, arr_fn, arr_wd, arr_is, arr_get, ble_d, Nat.le_refl, min_if, hm, hi1, hi2, hs, hs2, atL_of hx, atL_of hy, rowI, wrapS, int_eq]
    by_cases h1 : x = 1
    · by_cases h2 : y = k
      · rw [e, decide_eq_true h1, decide_eq_true h2]
        simp only [Bool.and_self, cond_true]
        refine congrArg (K .normal) ?_
        have ha := app1 (g i) (i : Int)
        rw [← ha, List.length_append]
        simp only [row1]
        rfl
      · rw [e, decide_eq_true h1, decide_eq_false h2]
        simp only [Bool.and_false, cond_true, cond_false]
    · rw [e, decide_eq_false h1]
      simp only [Bool.false_and, cond_false]
  · rw [round_sOwn_1]
    simp only [min_if, lt_d]
    by_cases h1 : N < p.st.length
    · rw [decide_eq_true h1, decide_eq_false (show ¬ N < p.own.length by omega)]; rfl
    · rw [decide_eq_false h1]; rfl
theorem s_sOwn : EntOk prog i_sOwn e_sOwn := ent_ok ea_sOwn_inj fun x hx =>
  body_sound (φ := (tabS [])) tabS_nil mixed (kp := kp_sOwn) (n := x.1.st.length + 1) func181 (c := bodyOf F_sOwn) (by kernel_rfl) (body_sOwn x.1 x.2 hx) (name_ok (by kernel_rfl))
end Go.Mach.F