/- Lemmas and definitions of the proof (Fm Mr Rx Ry Vg Pe Rz). Conditions: none. -/
import Derived.Test.YtkbhcdenfigpoaaZ3
set_option linter.all false
namespace Go.Mach.F
open Go Go.Mach Go.Proofs.Try
--=set_option maxRecDepth 100000
theorem int_eqM (a b : Int) : (a == b) = decide (a = b) := by by_cases h : a = b <;> simp [h]
def m1_RmS (x : Rm) (k : Int) : Rm := ⟨⟨(k), (k + 1)⟩, ⟨(k + 1 + 1), (k + 1 + 1 + 1)⟩, (mk_HdS x.kids (k + 1 + 1 + 1 + 1)), (k + 1 + 1 + 1 + 1 + cntL c1_HdS x.kids), (k + 1 + 1 + 1 + 1 + cntL c1_HdS x.kids + 1), (decide (Int.tmod (k + 1 + 1 + 1 + 1 + cntL c1_HdS x.kids + 1 + 1) 3 = 0)), (k + 1 + 1 + 1 + 1 + cntL c1_HdS x.kids + 1 + 1 + 1), (mk_SfS x.things (k + 1 + 1 + 1 + 1 + cntL c1_HdS x.kids + 1 + 1 + 1 + 1)), (mk_LI x.tags (k + 1 + 1 + 1 + 1 + cntL c1_HdS x.kids + 1 + 1 + 1 + 1 + cntL c1_SfS x.things))⟩
def c1_RmS (x : Rm) : Nat := 1 + 1 + 1 + 1 + cntL c1_HdS x.kids + 1 + 1 + 1 + 1 + cntL c1_SfS x.things + cntL c1_LI x.tags
def okh_RmS (x : List Rm × Int) : Prop := okq_RmS x.1 ∧ 0 ≤ x.2 ∧ x.2 + cntL c1_RmS x.1 ≤ BM
def eah_RmS (x : List Rm × Int) : List Arg := [aT (eL 11 Rm.cs x.1), aI x.2]
def eam_RmS (x : List Rm × Int) : List Arg := [lT (eL 11 Rm.cs x.1), aI x.2]
def mk_RmS (l : List Rm) (k : Int) : List Rm := markL m1_RmS c1_RmS l k
def f_hdRmS (x : List Rm × Int) : Int := if x.1 = mk_RmS x.1 x.2 then x.2 + cntL c1_RmS x.1 else -1
def f_mkRmS (x : List Rm × Int) : List Rm := mk_RmS x.1 x.2
def f_ctRmS (x : List Rm × Int) : Int := x.2 + cntL c1_RmS x.1
noncomputable def e_hdRmS : Ent := ent [] okh_RmS eah_RmS (erI 2) f_hdRmS
noncomputable def e_mkRmS : Ent := ent [1] okh_RmS eam_RmS (fun x => ([oT (.int .i64 (f_ctRmS x))], [oT (eL 11 Rm.cs (f_mkRmS x)), nul])) fun x => x
theorem eah_RmS_inj (x y : List Rm × Int) (h : eah_RmS x = eah_RmS y) : x = y := by
  simp only [eah_RmS, aI, aT, List.cons.injEq, Prod.mk.injEq, true_and, and_true, C.tr.injEq, T.int.injEq] at h
  exact Prod.ext (eL_inj Rm.cs_inj h.1) h.2
theorem eam_RmS_inj (x y : List Rm × Int) (h : eam_RmS x = eam_RmS y) : x = y := by
  simp only [eam_RmS, lT, aI, aT, List.cons.injEq, Prod.mk.injEq, true_and, and_true, C.tr.injEq, T.int.injEq] at h
  exact Prod.ext (eL_inj Rm.cs_inj h.1) h.2
def i_hdRmS : Nat := 113
noncomputable abbrev F_hdRmS : Func := f113
def kp_hdRmS : List (Nat × List Nat) := [(0, [0, 4]), (1, [0, 4, 20]), (2, [0, 4, 20, 36]), (3, [0, 4, 20]), (4, [0, 4, 20, 76]), (5, [16]), (6, [0, 4, 20]), (7, [0, 4, 20, 116]), (8, [16]), (9, [0, 4, 20]), (10, [0, 4, 20, 156]), (11, [16]), (12, [0, 4, 20]), (13, [0, 4, 20, 196]), (14, [16]), (15, [0, 4, 20]), (16, [0, 4, 20]), (17, [0, 4, 20, 240]), (18, [16]), (19, [0, 4, 20, 268]), (20, [16]), (21, [0, 4, 20]), (22, [0, 4, 20, 304]), (23, [16]), (24, [0, 4, 20]), (25, [0, 4, 20, 348]), (26, [16]), (27, [0, 4, 20]), (28, [0, 4, 20, 384]), (29, [16]), (30, [0, 4, 20]), (31, [0, 4, 20]), (32, [0, 4, 20, 428]), (33, [16]), (34, [0, 4, 20]), (35, [0, 4, 20, 464]), (36, [16]), (37, [16])]
def ts_hdRmS : List Nat := [0, 0]
def st_hdRmS_1 (l : List Rm) (k : Int) (x4 : Int) (x20 : Int) : St := [(0, ⟨z0, [(false, [.tr false (eL 11 Rm.cs l)])]⟩), (4, ⟨z0, [(false, [.tr true (T.int IntKind.i64 x4)])]⟩), (20, ⟨z0, [(false, [.tr true (T.int IntKind.i64 x20)])]⟩)]
def ex_hdRmS_1_1 (l : List Rm) (k : Int) (x4 : Int) (x20 : Int) : St := [(16, ⟨z0, [(false, [.tr true (T.int IntKind.i64 (-1))])]⟩)]
def ex_hdRmS_1_2 (l : List Rm) (k : Int) (x4 : Int) (x20 : Int) : St := [(0, ⟨z0, [(false, [.tr false (eL 11 Rm.cs l)])]⟩), (4, ⟨z0, [(false, [.tr true (T.int IntKind.i64 x4)])]⟩), (20, ⟨z0, [(false, [.tr true (T.int IntKind.i64 x20)])]⟩), (36, ⟨z0, []⟩)]
theorem round_hdRmS_1 (l : List Rm) (k : Int) (x4 : Int) (x20 : Int) (n : Nat) (K : Ex → St → Res) : roundAt prog (tabS [(i_hdHdS, e_hdHdS), (i_hdSfS, e_hdSfS), (i_hdLI, e_hdLI)]) kp_hdRmS F_hdRmS [1, 0, 1, 0] n (st_hdRmS_1 l k x4 x20) K = (
 bif decide (x20 < (↑l.length : Int)) then
  gd (decide (0 ≤ x20) && (x20.toNat.blt l.length && true)) <|
  gd (T.isI IntKind.i64 (atL Rm.cs l x20.toNat (0 + 0))) <|
  bif (atL Rm.cs l x20.toNat (0 + 0)).toI != x4 then
   K .ret (ex_hdRmS_1_1 l k x4 x20)
  else
  gd (decide (0 ≤ x20) && (x20.toNat.blt l.length && true)) <|
  gd (T.isI IntKind.i64 (atL Rm.cs l x20.toNat (0 + 1))) <|
  bif (atL Rm.cs l x20.toNat (0 + 1)).toI != IntKind.i64.wrap (x4 + 1) then
   K .ret (ex_hdRmS_1_1 l k x4 x20)
  else
  gd (decide (0 ≤ x20) && (x20.toNat.blt l.length && true)) <|
  gd (T.isI IntKind.i64 (atL Rm.cs l x20.toNat (2 + 0))) <|
  bif (atL Rm.cs l x20.toNat (2 + 0)).toI != IntKind.i64.wrap (IntKind.i64.wrap (x4 + 1) + 1) then
   K .ret (ex_hdRmS_1_1 l k x4 x20)
  else
  gd (decide (0 ≤ x20) && (x20.toNat.blt l.length && true)) <|
  gd (T.isI IntKind.i64 (atL Rm.cs l x20.toNat (2 + 1))) <|
  bif (atL Rm.cs l x20.toNat (2 + 1)).toI != IntKind.i64.wrap (IntKind.i64.wrap (IntKind.i64.wrap (x4 + 1) + 1) + 1) then
   K .ret (ex_hdRmS_1_1 l k x4 x20)
  else
  gd (decide (0 ≤ x20) && (x20.toNat.blt l.length && true)) <|
  gd ((atL Rm.cs l x20.toNat 4).isArr && (atL Rm.cs l x20.toNat 4).wd.beq 2) <|
  entK okh_HdS eah_HdS (f_hdHdS) [(0, false, [C.tr false (T.arr 2 (atL Rm.cs l x20.toNat 4).ln (atL Rm.cs l x20.toNat 4).fn)]),
  (0, false,
    [C.tr false
        (T.int IntKind.i64
          (IntKind.i64.wrap (IntKind.i64.wrap (IntKind.i64.wrap (IntKind.i64.wrap (x4 + 1) + 1) + 1) + 1)))])] fun (r1 : Int) =>
  bif decide (r1 < 0) then
   K .ret (ex_hdRmS_1_1 l k x4 x20)
  else
  gd (decide (0 ≤ x20) && (x20.toNat.blt l.length && true)) <|
  gd (T.isI IntKind.i64 (atL Rm.cs l x20.toNat 5)) <|
  bif (atL Rm.cs l x20.toNat 5).toI != r1 then
   K .ret (ex_hdRmS_1_1 l k x4 x20)
  else
  gd (decide (0 ≤ x20) && (x20.toNat.blt l.length && true)) <|
  gd (T.isI IntKind.i64 (atL Rm.cs l x20.toNat 6)) <|
  bif (atL Rm.cs l x20.toNat 6).toI != IntKind.i64.wrap (r1 + 1) then
   K .ret (ex_hdRmS_1_1 l k x4 x20)
  else
  gd (decide (0 ≤ x20) && (x20.toNat.blt l.length && true)) <|
  gd ((atL Rm.cs l x20.toNat 7).isB) <|
  bif !(atL Rm.cs l x20.toNat 7).toB == ((IntKind.i64.wrap (IntKind.i64.wrap (r1 + 1) + 1)).tmod 3 == 0) then
   K .ret (ex_hdRmS_1_1 l k x4 x20)
  else
  gd (decide (0 ≤ x20) && (x20.toNat.blt l.length && true)) <|
  gd (T.isI IntKind.i64 (atL Rm.cs l x20.toNat 8)) <|
  bif (atL Rm.cs l x20.toNat 8).toI != IntKind.i64.wrap (IntKind.i64.wrap (IntKind.i64.wrap (r1 + 1) + 1) + 1) then
   K .ret (ex_hdRmS_1_1 l k x4 x20)
  else
  gd (decide (0 ≤ x20) && (x20.toNat.blt l.length && true)) <|
  gd ((atL Rm.cs l x20.toNat 9).isArr && (atL Rm.cs l x20.toNat 9).wd.beq 1) <|
  entK okh_SfS eah_SfS (f_hdSfS) [(0, false, [C.tr false (T.arr 1 (atL Rm.cs l x20.toNat 9).ln (atL Rm.cs l x20.toNat 9).fn)]),
  (0, false,
    [C.tr false
        (T.int IntKind.i64
          (IntKind.i64.wrap (IntKind.i64.wrap (IntKind.i64.wrap (IntKind.i64.wrap (r1 + 1) + 1) + 1) + 1)))])] fun (r2 : Int) =>
  bif decide (r2 < 0) then
   K .ret (ex_hdRmS_1_1 l k x4 x20)
  else
  gd (decide (0 ≤ x20) && (x20.toNat.blt l.length && true)) <|
  gd ((atL Rm.cs l x20.toNat 10).isArr && (atL Rm.cs l x20.toNat 10).wd.beq 1) <|
  entK okh_LI eah_LI (f_hdLI) [(0, false, [C.tr false (T.arr 1 (atL Rm.cs l x20.toNat 10).ln (atL Rm.cs l x20.toNat 10).fn)]),
  (0, false, [C.tr false (T.int IntKind.i64 r2)])] fun (r3 : Int) =>
  bif decide (r3 < 0) then
   K .ret (ex_hdRmS_1_1 l k x4 x20)
  else
  K .normal (st_hdRmS_1 l k r3 (IntKind.i64.wrap (x20 + 1)))
 else
 K (.exit 0) (ex_hdRmS_1_2 l k x4 x20)) := by kernel_rfl
theorem post_hdRmS_1_1 (l : List Rm) (k : Int) (x4 : Int) (x20 : Int) (n : Nat) : contAt prog (tabS [(i_hdHdS, e_hdHdS), (i_hdSfS, e_hdSfS), (i_hdLI, e_hdLI)]) kp_hdRmS F_hdRmS ts_hdRmS [1, 0, 1, 0] [] n .ret (ex_hdRmS_1_1 l k x4 x20) = (
 some ([(false, [.tr true (T.int IntKind.i64 (-1))])], [(false, []), (false, [])])) := by kernel_rfl
theorem post_hdRmS_1_2 (l : List Rm) (k : Int) (x4 : Int) (x20 : Int) (n : Nat) : contAt prog (tabS [(i_hdHdS, e_hdHdS), (i_hdSfS, e_hdSfS), (i_hdLI, e_hdLI)]) kp_hdRmS F_hdRmS ts_hdRmS [1, 0, 1, 0] [] n (.exit 0) (ex_hdRmS_1_2 l k x4 x20) = (
 some ([(false, [.tr true (T.int IntKind.i64 x4)])], [(false, []), (false, [])])) := by kernel_rfl
theorem pre_hdRmS (l : List Rm) (k : Int) (n : Nat) : body prog (tabS [(i_hdHdS, e_hdHdS), (i_hdSfS, e_hdSfS), (i_hdLI, e_hdLI)]) kp_hdRmS n F_hdRmS [aT (eL 11 Rm.cs l), aI k] = (
 loopAt prog (tabS [(i_hdHdS, e_hdHdS), (i_hdSfS, e_hdSfS), (i_hdLI, e_hdLI)]) kp_hdRmS F_hdRmS [1, 0, 1, 0] n n (st_hdRmS_1 l k (k) (0)) (contAt prog (tabS [(i_hdHdS, e_hdHdS), (i_hdSfS, e_hdSfS), (i_hdLI, e_hdLI)]) kp_hdRmS F_hdRmS ts_hdRmS [1, 0, 1, 0] [] n)) := by kernel_rfl
theorem body_hdRmS (l : List Rm) (k : Int) (h : okh_RmS (l, k)) : body prog (tabS [(i_hdHdS, e_hdHdS), (i_hdSfS, e_hdSfS), (i_hdLI, e_hdLI)]) kp_hdRmS (l.length + 1) F_hdRmS (eah_RmS (l, k)) = some (erI 2 (f_hdRmS (l, k))) := by
  obtain ⟨hl, hk0, hk1⟩ := h
  have hbm := bm
  dsimp only at hl hk0 hk1
  have hl' : l.length ≤ BM := hl.1
  unfold eah_RmS f_hdRmS
  dsimp only
  rw [pre_hdRmS]
  have hst : st_hdRmS_1 l k k 0 = (fun i : Nat => st_hdRmS_1 l k (k + cntL c1_RmS (l.take i)) (i : Nat)) 0 := by simp [cntL]
  rw [hst, heldS m1_RmS c1_RmS l k (fun i : Nat => st_hdRmS_1 l k (k + cntL c1_RmS (l.take i)) (i : Nat)) (fun i : Nat => ex_hdRmS_1_1 l k (k + cntL c1_RmS (l.take i)) (i : Nat)) (ex_hdRmS_1_2 l k (k + cntL c1_RmS l) l.length) (fun i x K hx => ?_) (fun K => ?_) (fun i => post_hdRmS_1_1 l k _ _ _) (post_hdRmS_1_2 l k _ _ _) _ (Nat.le_refl _)]
  · unfold mk_RmS
    split <;> rfl
  · have hi := (List.getElem?_eq_some_iff.1 hx).1
    have hxm : x ∈ l := List.mem_of_getElem? hx
    have hc := cntL_take c1_RmS l hx
    have hcl := cntL_le c1_RmS l (i + 1)
    have hcx : c1_RmS x = 1 + 1 + 1 + 1 + cntL c1_HdS x.kids + 1 + 1 + 1 + 1 + cntL c1_SfS x.things + cntL c1_LI x.tags := rfl
    have h0 := (hl.2 _ hxm).1
    have h1 := (hl.2 _ hxm).2.1
    have h2 := (hl.2 _ hxm).2.2
    rw [hc, round_hdRmS_1]
    obtain ⟨k0, hk⟩ : ∃ k0, k0 = k + (cntL c1_RmS (l.take i) : Int) := ⟨_, rfl⟩
    have hk2 : k + ((cntL c1_RmS (l.take i) + c1_RmS x : Nat) : Int) = k0 + 1 + 1 + 1 + 1 + cntL c1_HdS x.kids + 1 + 1 + 1 + 1 + cntL c1_SfS x.things + cntL c1_LI x.tags := by omega
    rw [hk2, ← hk]
    have g0 : okh_HdS (x.kids, k0 + 1 + 1 + 1 + 1) := ⟨h0, by dsimp only; omega, by dsimp only; omega⟩
    have g1 : okh_SfS (x.things, k0 + 1 + 1 + 1 + 1 + cntL c1_HdS x.kids + 1 + 1 + 1 + 1) := ⟨h1, by dsimp only; omega, by dsimp only; omega⟩
    have g2 : okh_LI (x.tags, k0 + 1 + 1 + 1 + 1 + cntL c1_HdS x.kids + 1 + 1 + 1 + 1 + cntL c1_SfS x.things) := ⟨h2, by dsimp only; omega, by dsimp only; omega⟩
    simp (disch := omega) only [lt_d, ge0_d, Int.toNat_natCast, blt_d, ble_self, beq_self, decide_true, cond_true, Bool.and_self, Bool.and_true, Bool.true_and, gd_true, Nat.zero_add, List.getD_cons_zero, List.getD_cons_succ, isI_int, toI_int, isB_bool, toB_bool, eL_T, arr_ln, arr_fn, arr_wd, arr_is, arr_get, hi, atL_of hx, Rm.cs, int_ne, bool_ne, int_eqM, bool_eq, wrapI, wrapS]
    by_cases e0 : x.h.slot = k0
    case neg =>
      rw [decide_eq_false e0, decide_eq_false (show ¬ x = m1_RmS x k0 from fun e => e0 (congrArg (fun z : Rm => z.h.slot) e))]
      rfl
    rw [decide_eq_true e0]
    simp (disch := omega) only [Bool.not_true, cond_false, wrapI]
    by_cases e1 : x.h.gen = k0 + 1
    case neg =>
      rw [decide_eq_false e1, decide_eq_false (show ¬ x = m1_RmS x k0 from fun e => e1 (congrArg (fun z : Rm => z.h.gen) e))]
      rfl
    rw [decide_eq_true e1]
    simp (disch := omega) only [Bool.not_true, cond_false, wrapI]
    by_cases e2 : x.up.slot = k0 + 1 + 1
    case neg =>
      rw [decide_eq_false e2, decide_eq_false (show ¬ x = m1_RmS x k0 from fun e => e2 (congrArg (fun z : Rm => z.up.slot) e))]
      rfl
    rw [decide_eq_true e2]
    simp (disch := omega) only [Bool.not_true, cond_false, wrapI]
    by_cases e3 : x.up.gen = k0 + 1 + 1 + 1
    case neg =>
      rw [decide_eq_false e3, decide_eq_false (show ¬ x = m1_RmS x k0 from fun e => e3 (congrArg (fun z : Rm => z.up.gen) e))]
      rfl
    rw [decide_eq_true e3]
    simp (disch := omega) only [Bool.not_true, cond_false, wrapI]
    simp only [entK_of (dm_hdHdS g0) (iv_hdHdS g0), gd_true]
    by_cases e4 : x.kids = mk_HdS x.kids (k0 + 1 + 1 + 1 + 1)
    case neg =>
      simp only [n_hdHdS e4]
      rw [decide_eq_false (show ¬ x = m1_RmS x k0 from fun e => e4 (congrArg (fun z : Rm => z.kids) e))]
      rfl
    simp only [y_hdHdS e4]
    rw [decide_eq_false (show ¬ k0 + 1 + 1 + 1 + 1 + (cntL c1_HdS x.kids : Int) < 0 by omega)]
    simp (disch := omega) only [cond_false, wrapI]
    by_cases e5 : x.ep = k0 + 1 + 1 + 1 + 1 + cntL c1_HdS x.kids
    case neg =>
      rw [decide_eq_false e5, decide_eq_false (show ¬ x = m1_RmS x k0 from fun e => e5 (congrArg (fun z : Rm => z.ep) e))]
      rfl
    rw [decide_eq_true e5]
    simp (disch := omega) only [Bool.not_true, cond_false, wrapI]
    by_cases e6 : x.chunks = k0 + 1 + 1 + 1 + 1 + cntL c1_HdS x.kids + 1
    case neg =>
      rw [decide_eq_false e6, decide_eq_false (show ¬ x = m1_RmS x k0 from fun e => e6 (congrArg (fun z : Rm => z.chunks) e))]
      rfl
    rw [decide_eq_true e6]
    simp (disch := omega) only [Bool.not_true, cond_false, wrapI]
    by_cases e7 : x.cur = decide (Int.tmod (k0 + 1 + 1 + 1 + 1 + cntL c1_HdS x.kids + 1 + 1) 3 = 0)
    case neg =>
      rw [decide_eq_false e7, decide_eq_false (show ¬ x = m1_RmS x k0 from fun e => e7 (congrArg (fun z : Rm => z.cur) e))]
      rfl
    rw [decide_eq_true e7]
    simp (disch := omega) only [Bool.not_true, cond_false, wrapI]
    by_cases e8 : x.bump = k0 + 1 + 1 + 1 + 1 + cntL c1_HdS x.kids + 1 + 1 + 1
    case neg =>
      rw [decide_eq_false e8, decide_eq_false (show ¬ x = m1_RmS x k0 from fun e => e8 (congrArg (fun z : Rm => z.bump) e))]
      rfl
    rw [decide_eq_true e8]
    simp (disch := omega) only [Bool.not_true, cond_false, wrapI]
    simp only [entK_of (dm_hdSfS g1) (iv_hdSfS g1), gd_true]
    by_cases e9 : x.things = mk_SfS x.things (k0 + 1 + 1 + 1 + 1 + cntL c1_HdS x.kids + 1 + 1 + 1 + 1)
    case neg =>
      simp only [n_hdSfS e9]
      rw [decide_eq_false (show ¬ x = m1_RmS x k0 from fun e => e9 (congrArg (fun z : Rm => z.things) e))]
      rfl
    simp only [y_hdSfS e9]
    rw [decide_eq_false (show ¬ k0 + 1 + 1 + 1 + 1 + cntL c1_HdS x.kids + 1 + 1 + 1 + 1 + (cntL c1_SfS x.things : Int) < 0 by omega)]
    simp (disch := omega) only [cond_false, wrapI]
    simp only [entK_of (dm_hdLI g2) (iv_hdLI g2), gd_true]
    by_cases e10 : x.tags = mk_LI x.tags (k0 + 1 + 1 + 1 + 1 + cntL c1_HdS x.kids + 1 + 1 + 1 + 1 + cntL c1_SfS x.things)
    case neg =>
      simp only [n_hdLI e10]
      rw [decide_eq_false (show ¬ x = m1_RmS x k0 from fun e => e10 (congrArg (fun z : Rm => z.tags) e))]
      rfl
    simp only [y_hdLI e10]
    rw [decide_eq_false (show ¬ k0 + 1 + 1 + 1 + 1 + cntL c1_HdS x.kids + 1 + 1 + 1 + 1 + cntL c1_SfS x.things + (cntL c1_LI x.tags : Int) < 0 by omega)]
    simp (disch := omega) only [cond_false, wrapI]
    have hm : x = m1_RmS x k0 := by
      rcases x with ⟨⟨x0, x1⟩, ⟨x2, x3⟩, x4, x5, x6, x7, x8, x9, x10⟩
      simp only [m1_RmS, Rm.mk.injEq, Hd.mk.injEq]
      exact ⟨⟨e0, e1⟩, ⟨e2, e3⟩, e4, e5, e6, e7, e8, e9, e10⟩
    rw [decide_eq_true hm]
    simp only [Bool.not_true, cond_false]
    congr 2
  · rw [round_hdRmS_1]
    simp only [lt_d, Nat.lt_irrefl, decide_false, cond_false, List.take_length]
theorem s_hdRmS : EntOk prog i_hdRmS e_hdRmS := ent_ok eah_RmS_inj fun x hx =>
  body_sound (φ := (tabS [(i_hdHdS, e_hdHdS), (i_hdSfS, e_hdSfS), (i_hdLI, e_hdLI)])) (tabS_cons s_hdHdS (tabS_cons s_hdSfS (tabS_cons s_hdLI tabS_nil))) mixed (kp := kp_hdRmS) (n := x.1.length + 1) func113 (c := bodyOf F_hdRmS) (by kernel_rfl) (body_hdRmS x.1 x.2 hx) (name_ok (by kernel_rfl))
def i_mkRmS : Nat := 80
noncomputable abbrev F_mkRmS : Func := f80
def kp_mkRmS : List (Nat × List Nat) := [(0, [0, 4, 2]), (1, [0, 4, 20, 2]), (2, [0, 4, 20, 36, 2]), (3, [0, 4, 20, 2]), (4, [0, 4, 20, 2]), (5, [0, 4, 20, 2]), (6, [0, 4, 20, 2]), (7, [0, 4, 20, 2]), (8, [0, 4, 20, 2]), (9, [0, 4, 20, 2]), (10, [0, 4, 20, 2]), (11, [0, 4, 20, 2]), (12, [0, 4, 20, 2]), (13, [0, 4, 20, 2]), (14, [0, 4, 20, 2]), (15, [0, 4, 20, 2]), (16, [0, 4, 20, 2]), (17, [0, 4, 20, 2]), (18, [0, 4, 20, 2]), (19, [0, 4, 20, 2]), (20, [0, 4, 20, 2]), (21, [0, 4, 20, 2]), (22, [0, 4, 20, 2]), (23, [16, 2])]
def ts_mkRmS : List Nat := [1, 0]
def st_mkRmS_1 (l : List Rm) (k : Int) (x4 : Int) (x20 : Int) (nx2 : Nat) (fx2 : Nat → Nat → T) : St := [(0, ⟨z0, [(false, [(C.ref 2 0 [0, 0] 11 0 l.length)])]⟩), (4, ⟨z0, [(false, [.tr true (T.int IntKind.i64 x4)])]⟩), (20, ⟨z0, [(false, [.tr true (T.int IntKind.i64 x20)])]⟩), (2, ⟨z0, [(false, [.tr true (.arr (11) (nx2) (fx2))])]⟩)]
def ex_mkRmS_1_1 (l : List Rm) (k : Int) (x4 : Int) (x20 : Int) (nx2 : Nat) (fx2 : Nat → Nat → T) : St := [(0, ⟨z0, [(false, [(C.ref 2 0 [0, 0] 11 0 l.length)])]⟩), (4, ⟨z0, [(false, [.tr true (T.int IntKind.i64 x4)])]⟩), (20, ⟨z0, [(false, [.tr true (T.int IntKind.i64 x20)])]⟩), (36, ⟨z0, []⟩), (2, ⟨z0, [(false, [.tr true (.arr (11) (nx2) (fx2))])]⟩)]
theorem round_mkRmS_1 (l : List Rm) (k : Int) (x4 : Int) (x20 : Int) (nx2 : Nat) (fx2 : Nat → Nat → T) (n : Nat) (K : Ex → St → Res) : roundAt prog (tabS [(i_mkHdS, e_mkHdS), (i_mkSfS, e_mkSfS), (i_mkLI, e_mkLI)]) kp_mkRmS F_mkRmS [1, 0, 1, 0] n (st_mkRmS_1 l k x4 x20 nx2 fx2) K = (
 bif decide (x20 < (↑l.length : Int)) then
  gd (decide (0 ≤ x20) && (x20.toNat.blt l.length && true)) <|
  gd ((0 + x20.toNat).blt nx2 && true && true) <|
  gd (decide (0 ≤ x20) && (x20.toNat.blt l.length && true)) <|
  gd ((0 + x20.toNat).blt nx2 && true && true) <|
  gd (decide (0 ≤ x20) && (x20.toNat.blt l.length && true)) <|
  gd ((0 + x20.toNat).blt nx2 && true && true) <|
  gd (decide (0 ≤ x20) && (x20.toNat.blt l.length && true)) <|
  gd ((0 + x20.toNat).blt nx2 && true && true) <|
  gd (decide (0 ≤ x20) && (x20.toNat.blt l.length && true)) <|
  gd ((0 + x20.toNat).blt nx2 && true &&
  ((setF (0 + x20.toNat) (2 + 1)
        (T.int IntKind.i64 (IntKind.i64.wrap (IntKind.i64.wrap (IntKind.i64.wrap (x4 + 1) + 1) + 1)))
        (setF (0 + x20.toNat) (2 + 0) (T.int IntKind.i64 (IntKind.i64.wrap (IntKind.i64.wrap (x4 + 1) + 1)))
          (setF (0 + x20.toNat) (0 + 1) (T.int IntKind.i64 (IntKind.i64.wrap (x4 + 1)))
            (setF (0 + x20.toNat) (0 + 0) (T.int IntKind.i64 x4) fx2)))
        (0 + x20.toNat) (4 + 0)).isArr &&
    (setF (0 + x20.toNat) (2 + 1)
            (T.int IntKind.i64 (IntKind.i64.wrap (IntKind.i64.wrap (IntKind.i64.wrap (x4 + 1) + 1) + 1)))
            (setF (0 + x20.toNat) (2 + 0) (T.int IntKind.i64 (IntKind.i64.wrap (IntKind.i64.wrap (x4 + 1) + 1)))
              (setF (0 + x20.toNat) (0 + 1) (T.int IntKind.i64 (IntKind.i64.wrap (x4 + 1)))
                (setF (0 + x20.toNat) (0 + 0) (T.int IntKind.i64 x4) fx2)))
            (0 + x20.toNat) (4 + 0)).wd.beq
      2)) <|
  gd ((0 + x20.toNat).blt nx2 && true && true &&
  ((T.arr 11 nx2
          (setF (0 + x20.toNat) (2 + 1)
            (T.int IntKind.i64 (IntKind.i64.wrap (IntKind.i64.wrap (IntKind.i64.wrap (x4 + 1) + 1) + 1)))
            (setF (0 + x20.toNat) (2 + 0) (T.int IntKind.i64 (IntKind.i64.wrap (IntKind.i64.wrap (x4 + 1) + 1)))
              (setF (0 + x20.toNat) (0 + 1) (T.int IntKind.i64 (IntKind.i64.wrap (x4 + 1)))
                (setF (0 + x20.toNat) (0 + 0) (T.int IntKind.i64 x4) fx2))))).get
      [0 + x20.toNat, 4 + 0]).isArr) <|
  gd ((setF (0 + x20.toNat) (2 + 1)
          (T.int IntKind.i64 (IntKind.i64.wrap (IntKind.i64.wrap (IntKind.i64.wrap (x4 + 1) + 1) + 1)))
          (setF (0 + x20.toNat) (2 + 0) (T.int IntKind.i64 (IntKind.i64.wrap (IntKind.i64.wrap (x4 + 1) + 1)))
            (setF (0 + x20.toNat) (0 + 1) (T.int IntKind.i64 (IntKind.i64.wrap (x4 + 1)))
              (setF (0 + x20.toNat) (0 + 0) (T.int IntKind.i64 x4) fx2)))
          (0 + x20.toNat) (4 + 0)).ln.beq
    ((T.arr 11 nx2
            (setF (0 + x20.toNat) (2 + 1)
              (T.int IntKind.i64 (IntKind.i64.wrap (IntKind.i64.wrap (IntKind.i64.wrap (x4 + 1) + 1) + 1)))
              (setF (0 + x20.toNat) (2 + 0) (T.int IntKind.i64 (IntKind.i64.wrap (IntKind.i64.wrap (x4 + 1) + 1)))
                (setF (0 + x20.toNat) (0 + 1) (T.int IntKind.i64 (IntKind.i64.wrap (x4 + 1)))
                  (setF (0 + x20.toNat) (0 + 0) (T.int IntKind.i64 x4) fx2))))).get
        [0 + x20.toNat, 4 + 0]).ln &&
  Nat.beq 2
    ((T.arr 11 nx2
            (setF (0 + x20.toNat) (2 + 1)
              (T.int IntKind.i64 (IntKind.i64.wrap (IntKind.i64.wrap (IntKind.i64.wrap (x4 + 1) + 1) + 1)))
              (setF (0 + x20.toNat) (2 + 0) (T.int IntKind.i64 (IntKind.i64.wrap (IntKind.i64.wrap (x4 + 1) + 1)))
                (setF (0 + x20.toNat) (0 + 1) (T.int IntKind.i64 (IntKind.i64.wrap (x4 + 1)))
                  (setF (0 + x20.toNat) (0 + 0) (T.int IntKind.i64 x4) fx2))))).get
        [0 + x20.toNat, 4 + 0]).wd) <|
  entK okh_HdS eam_HdS (fun x => x) [(1, false,
    [C.tr true
        (T.arr 2
          (setF (0 + x20.toNat) (2 + 1)
              (T.int IntKind.i64 (IntKind.i64.wrap (IntKind.i64.wrap (IntKind.i64.wrap (x4 + 1) + 1) + 1)))
              (setF (0 + x20.toNat) (2 + 0) (T.int IntKind.i64 (IntKind.i64.wrap (IntKind.i64.wrap (x4 + 1) + 1)))
                (setF (0 + x20.toNat) (0 + 1) (T.int IntKind.i64 (IntKind.i64.wrap (x4 + 1)))
                  (setF (0 + x20.toNat) (0 + 0) (T.int IntKind.i64 x4) fx2)))
              (0 + x20.toNat) (4 + 0)).ln
          ((T.arr 11 nx2
                  (setF (0 + x20.toNat) (2 + 1)
                    (T.int IntKind.i64 (IntKind.i64.wrap (IntKind.i64.wrap (IntKind.i64.wrap (x4 + 1) + 1) + 1)))
                    (setF (0 + x20.toNat) (2 + 0) (T.int IntKind.i64 (IntKind.i64.wrap (IntKind.i64.wrap (x4 + 1) + 1)))
                      (setF (0 + x20.toNat) (0 + 1) (T.int IntKind.i64 (IntKind.i64.wrap (x4 + 1)))
                        (setF (0 + x20.toNat) (0 + 0) (T.int IntKind.i64 x4) fx2))))).get
              [0 + x20.toNat, 4 + 0]).fn)]),
  (0, false,
    [C.tr false
        (T.int IntKind.i64
          (IntKind.i64.wrap (IntKind.i64.wrap (IntKind.i64.wrap (IntKind.i64.wrap (x4 + 1) + 1) + 1) + 1)))])] fun (r1 : List Hd × Int) =>
  gd ((setF (0 + x20.toNat) (2 + 1)
          (T.int IntKind.i64 (IntKind.i64.wrap (IntKind.i64.wrap (IntKind.i64.wrap (x4 + 1) + 1) + 1)))
          (setF (0 + x20.toNat) (2 + 0) (T.int IntKind.i64 (IntKind.i64.wrap (IntKind.i64.wrap (x4 + 1) + 1)))
            (setF (0 + x20.toNat) (0 + 1) (T.int IntKind.i64 (IntKind.i64.wrap (x4 + 1)))
              (setF (0 + x20.toNat) (0 + 0) (T.int IntKind.i64 x4) fx2)))
          (0 + x20.toNat) (4 + 0)).ln.beq
    (f_mkHdS r1).length &&
  ((0 + x20.toNat).blt nx2 && true && true)) <|
  gd (decide (0 ≤ x20) && (x20.toNat.blt l.length && true)) <|
  gd ((0 + x20.toNat).blt nx2 && true && true) <|
  gd (decide (0 ≤ x20) && (x20.toNat.blt l.length && true)) <|
  gd ((0 + x20.toNat).blt nx2 && true && true) <|
  gd (decide (0 ≤ x20) && (x20.toNat.blt l.length && true)) <|
  gd ((0 + x20.toNat).blt nx2 && true && true) <|
  gd (decide (0 ≤ x20) && (x20.toNat.blt l.length && true)) <|
  gd ((0 + x20.toNat).blt nx2 && true && true) <|
  gd (decide (0 ≤ x20) && (x20.toNat.blt l.length && true)) <|
  gd ((0 + x20.toNat).blt nx2 && true &&
  ((setF (0 + x20.toNat) 8
        (T.int IntKind.i64 (IntKind.i64.wrap (IntKind.i64.wrap (IntKind.i64.wrap (f_ctHdS r1 + 1) + 1) + 1)))
        (setF (0 + x20.toNat) 7 (T.bool ((IntKind.i64.wrap (IntKind.i64.wrap (f_ctHdS r1 + 1) + 1)).tmod 3 == 0))
          (setF (0 + x20.toNat) 6 (T.int IntKind.i64 (IntKind.i64.wrap (f_ctHdS r1 + 1)))
            (setF (0 + x20.toNat) 5 (T.int IntKind.i64 (f_ctHdS r1))
              (setF (0 + x20.toNat) (4 + 0) (T.arr 2 (f_mkHdS r1).length (atL Hd.cs (f_mkHdS r1)))
                (setF (0 + x20.toNat) (4 + 0)
                  (T.lent 2
                    (setF (0 + x20.toNat) (2 + 1)
                        (T.int IntKind.i64 (IntKind.i64.wrap (IntKind.i64.wrap (IntKind.i64.wrap (x4 + 1) + 1) + 1)))
                        (setF (0 + x20.toNat) (2 + 0)
                          (T.int IntKind.i64 (IntKind.i64.wrap (IntKind.i64.wrap (x4 + 1) + 1)))
                          (setF (0 + x20.toNat) (0 + 1) (T.int IntKind.i64 (IntKind.i64.wrap (x4 + 1)))
                            (setF (0 + x20.toNat) (0 + 0) (T.int IntKind.i64 x4) fx2)))
                        (0 + x20.toNat) (4 + 0)).ln)
                  (setF (0 + x20.toNat) (2 + 1)
                    (T.int IntKind.i64 (IntKind.i64.wrap (IntKind.i64.wrap (IntKind.i64.wrap (x4 + 1) + 1) + 1)))
                    (setF (0 + x20.toNat) (2 + 0) (T.int IntKind.i64 (IntKind.i64.wrap (IntKind.i64.wrap (x4 + 1) + 1)))
                      (setF (0 + x20.toNat) (0 + 1) (T.int IntKind.i64 (IntKind.i64.wrap (x4 + 1)))
                        (setF (0 + x20.toNat) (0 + 0) (T.int IntKind.i64 x4) fx2)))))))))
        (0 + x20.toNat) (9 + 0)).isArr &&
    (setF (0 + x20.toNat) 8
            (T.int IntKind.i64 (IntKind.i64.wrap (IntKind.i64.wrap (IntKind.i64.wrap (f_ctHdS r1 + 1) + 1) + 1)))
            (setF (0 + x20.toNat) 7
              (T.bool ((IntKind.i64.wrap (IntKind.i64.wrap (f_ctHdS r1 + 1) + 1)).tmod 3 == 0))
              (setF (0 + x20.toNat) 6 (T.int IntKind.i64 (IntKind.i64.wrap (f_ctHdS r1 + 1)))
                (setF (0 + x20.toNat) 5 (T.int IntKind.i64 (f_ctHdS r1))
                  (setF (0 + x20.toNat) (4 + 0) (T.arr 2 (f_mkHdS r1).length (atL Hd.cs (f_mkHdS r1)))
                    (setF (0 + x20.toNat) (4 + 0)
                      (T.lent 2
                        (setF (0 + x20.toNat) (2 + 1)
                            (T.int IntKind.i64
                              (IntKind.i64.wrap (IntKind.i64.wrap (IntKind.i64.wrap (x4 + 1) + 1) + 1)))
                            (setF (0 + x20.toNat) (2 + 0)
                              (T.int IntKind.i64 (IntKind.i64.wrap (IntKind.i64.wrap (x4 + 1) + 1)))
                              (setF (0 + x20.toNat) (0 + 1) (T.int IntKind.i64 (IntKind.i64.wrap (x4 + 1)))
                                (setF (0 + x20.toNat) (0 + 0) (T.int IntKind.i64 x4) fx2)))
                            (0 + x20.toNat) (4 + 0)).ln)
                      (setF (0 + x20.toNat) (2 + 1)
                        (T.int IntKind.i64 (IntKind.i64.wrap (IntKind.i64.wrap (IntKind.i64.wrap (x4 + 1) + 1) + 1)))
                        (setF (0 + x20.toNat) (2 + 0)
                          (T.int IntKind.i64 (IntKind.i64.wrap (IntKind.i64.wrap (x4 + 1) + 1)))
                          (setF (0 + x20.toNat) (0 + 1) (T.int IntKind.i64 (IntKind.i64.wrap (x4 + 1)))
                            (setF (0 + x20.toNat) (0 + 0) (T.int IntKind.i64 x4) fx2)))))))))
            (0 + x20.toNat) (9 + 0)).wd.beq
      1)) <|
  gd ((0 + x20.toNat).blt nx2 && true && true &&
  ((T.arr 11 nx2
          (setF (0 + x20.toNat) 8
            (T.int IntKind.i64 (IntKind.i64.wrap (IntKind.i64.wrap (IntKind.i64.wrap (f_ctHdS r1 + 1) + 1) + 1)))
            (setF (0 + x20.toNat) 7
              (T.bool ((IntKind.i64.wrap (IntKind.i64.wrap (f_ctHdS r1 + 1) + 1)).tmod 3 == 0))
              (setF (0 + x20.toNat) 6 (T.int IntKind.i64 (IntKind.i64.wrap (f_ctHdS r1 + 1)))
                (setF (0 + x20.toNat) 5 (T.int IntKind.i64 (f_ctHdS r1))
                  (setF (0 + x20.toNat) (4 + 0) (T.arr 2 (f_mkHdS r1).length (atL Hd.cs (f_mkHdS r1)))
                    (setF (0 + x20.toNat) (4 + 0)
                      (T.lent 2
                        (setF (0 + x20.toNat) (2 + 1)
                            (T.int IntKind.i64
                              (IntKind.i64.wrap (IntKind.i64.wrap (IntKind.i64.wrap (x4 + 1) + 1) + 1)))
                            (setF (0 + x20.toNat) (2 + 0)
                              (T.int IntKind.i64 (IntKind.i64.wrap (IntKind.i64.wrap (x4 + 1) + 1)))
                              (setF (0 + x20.toNat) (0 + 1) (T.int IntKind.i64 (IntKind.i64.wrap (x4 + 1)))
                                (setF (0 + x20.toNat) (0 + 0) (T.int IntKind.i64 x4) fx2)))
                            (0 + x20.toNat) (4 + 0)).ln)
                      (setF (0 + x20.toNat) (2 + 1)
                        (T.int IntKind.i64 (IntKind.i64.wrap (IntKind.i64.wrap (IntKind.i64.wrap (x4 + 1) + 1) + 1)))
                        (setF (0 + x20.toNat) (2 + 0)
                          (T.int IntKind.i64 (IntKind.i64.wrap (IntKind.i64.wrap (x4 + 1) + 1)))
                          (setF (0 + x20.toNat) (0 + 1) (T.int IntKind.i64 (IntKind.i64.wrap (x4 + 1)))
                            (setF (0 + x20.toNat) (0 + 0) (T.int IntKind.i64 x4) fx2))))))))))).get
      [0 + x20.toNat, 9 + 0]).isArr) <|
  gd ((setF (0 + x20.toNat) 8
          (T.int IntKind.i64 (IntKind.i64.wrap (IntKind.i64.wrap (IntKind.i64.wrap (f_ctHdS r1 + 1) + 1) + 1)))
          (setF (0 + x20.toNat) 7
            (T.bool ((IntKind.i64.wrap (IntKind.i64.wrap (f_ctHdS r1 + 1) + 1)).tmod 3 == 0))
            (setF (0 + x20.toNat) 6 (T.int IntKind.i64 (IntKind.i64.wrap (f_ctHdS r1 + 1)))
              (setF (0 + x20.toNat) 5 (T.int IntKind.i64 (f_ctHdS r1))
                (setF (0 + x20.toNat) (4 + 0) (T.arr 2 (f_mkHdS r1).length (atL Hd.cs (f_mkHdS r1)))
                  (setF (0 + x20.toNat) (4 + 0)
                    (T.lent 2
                      (setF (0 + x20.toNat) (2 + 1)
                          (T.int IntKind.i64 (IntKind.i64.wrap (IntKind.i64.wrap (IntKind.i64.wrap (x4 + 1) + 1) + 1)))
                          (setF (0 + x20.toNat) (2 + 0)
                            (T.int IntKind.i64 (IntKind.i64.wrap (IntKind.i64.wrap (x4 + 1) + 1)))
                            (setF (0 + x20.toNat) (0 + 1) (T.int IntKind.i64 (IntKind.i64.wrap (x4 + 1)))
                              (setF (0 + x20.toNat) (0 + 0) (T.int IntKind.i64 x4) fx2)))
                          (0 + x20.toNat) (4 + 0)).ln)
                    (setF (0 + x20.toNat) (2 + 1)
                      (T.int IntKind.i64 (IntKind.i64.wrap (IntKind.i64.wrap (IntKind.i64.wrap (x4 + 1) + 1) + 1)))
                      (setF (0 + x20.toNat) (2 + 0)
                        (T.int IntKind.i64 (IntKind.i64.wrap (IntKind.i64.wrap (x4 + 1) + 1)))
                        (setF (0 + x20.toNat) (0 + 1) (T.int IntKind.i64 (IntKind.i64.wrap (x4 + 1)))
                          (setF (0 + x20.toNat) (0 + 0) (T.int IntKind.i64 x4) fx2)))))))))
          (0 + x20.toNat) (9 + 0)).ln.beq
    ((T.arr 11 nx2
            (setF (0 + x20.toNat) 8
              (T.int IntKind.i64
                (IntKind.i64.wrap (IntKind.i64.wrap (IntKind.i64.wrap (f_ctHdS r1 + 1) + 1) + 1)))
              (setF (0 + x20.toNat) 7
                (T.bool ((IntKind.i64.wrap (IntKind.i64.wrap (f_ctHdS r1 + 1) + 1)).tmod 3 == 0))
                (setF (0 + x20.toNat) 6 (T.int IntKind.i64 (IntKind.i64.wrap (f_ctHdS r1 + 1)))
                  (setF (0 + x20.toNat) 5 (T.int IntKind.i64 (f_ctHdS r1))
                    (setF (0 + x20.toNat) (4 + 0) (T.arr 2 (f_mkHdS r1).length (atL Hd.cs (f_mkHdS r1)))
                      (setF (0 + x20.toNat) (4 + 0)
                        (T.lent 2
                          (setF (0 + x20.toNat) (2 + 1)
                              (T.int IntKind.i64
                                (IntKind.i64.wrap (IntKind.i64.wrap (IntKind.i64.wrap (x4 + 1) + 1) + 1)))
                              (setF (0 + x20.toNat) (2 + 0)
                                (T.int IntKind.i64 (IntKind.i64.wrap (IntKind.i64.wrap (x4 + 1) + 1)))
                                (setF (0 + x20.toNat) (0 + 1) (T.int IntKind.i64 (IntKind.i64.wrap (x4 + 1)))
                                  (setF (0 + x20.toNat) (0 + 0) (T.int IntKind.i64 x4) fx2)))
                              (0 + x20.toNat) (4 + 0)).ln)
                        (setF (0 + x20.toNat) (2 + 1)
                          (T.int IntKind.i64 (IntKind.i64.wrap (IntKind.i64.wrap (IntKind.i64.wrap (x4 + 1) + 1) + 1)))
                          (setF (0 + x20.toNat) (2 + 0)
                            (T.int IntKind.i64 (IntKind.i64.wrap (IntKind.i64.wrap (x4 + 1) + 1)))
                            (setF (0 + x20.toNat) (0 + 1) (T.int IntKind.i64 (IntKind.i64.wrap (x4 + 1)))
                              (setF (0 + x20.toNat) (0 + 0) (T.int IntKind.i64 x4) fx2))))))))))).get
        [0 + x20.toNat, 9 + 0]).ln &&
  Nat.beq 1
    ((T.arr 11 nx2
            (setF (0 + x20.toNat) 8
              (T.int IntKind.i64
                (IntKind.i64.wrap (IntKind.i64.wrap (IntKind.i64.wrap (f_ctHdS r1 + 1) + 1) + 1)))
              (setF (0 + x20.toNat) 7
                (T.bool ((IntKind.i64.wrap (IntKind.i64.wrap (f_ctHdS r1 + 1) + 1)).tmod 3 == 0))
                (setF (0 + x20.toNat) 6 (T.int IntKind.i64 (IntKind.i64.wrap (f_ctHdS r1 + 1)))
                  (setF (0 + x20.toNat) 5 (T.int IntKind.i64 (f_ctHdS r1))
                    (setF (0 + x20.toNat) (4 + 0) (T.arr 2 (f_mkHdS r1).length (atL Hd.cs (f_mkHdS r1)))
                      (setF (0 + x20.toNat) (4 + 0)
                        (T.lent 2
                          (setF (0 + x20.toNat) (2 + 1)
                              (T.int IntKind.i64
                                (IntKind.i64.wrap (IntKind.i64.wrap (IntKind.i64.wrap (x4 + 1) + 1) + 1)))
                              (setF (0 + x20.toNat) (2 + 0)
                                (T.int IntKind.i64 (IntKind.i64.wrap (IntKind.i64.wrap (x4 + 1) + 1)))
                                (setF (0 + x20.toNat) (0 + 1) (T.int IntKind.i64 (IntKind.i64.wrap (x4 + 1)))
                                  (setF (0 + x20.toNat) (0 + 0) (T.int IntKind.i64 x4) fx2)))
                              (0 + x20.toNat) (4 + 0)).ln)
                        (setF (0 + x20.toNat) (2 + 1)
                          (T.int IntKind.i64 (IntKind.i64.wrap (IntKind.i64.wrap (IntKind.i64.wrap (x4 + 1) + 1) + 1)))
                          (setF (0 + x20.toNat) (2 + 0)
                            (T.int IntKind.i64 (IntKind.i64.wrap (IntKind.i64.wrap (x4 + 1) + 1)))
                            (setF (0 + x20.toNat) (0 + 1) (T.int IntKind.i64 (IntKind.i64.wrap (x4 + 1)))
                              (setF (0 + x20.toNat) (0 + 0) (T.int IntKind.i64 x4) fx2))))))))))).get
        [0 + x20.toNat, 9 + 0]).wd) <|
  entK okh_SfS eam_SfS (fun x => x) [(1, false,
    [C.tr true
        (T.arr 1
          (setF (0 + x20.toNat) 8
              (T.int IntKind.i64
                (IntKind.i64.wrap (IntKind.i64.wrap (IntKind.i64.wrap (f_ctHdS r1 + 1) + 1) + 1)))
              (setF (0 + x20.toNat) 7
                (T.bool ((IntKind.i64.wrap (IntKind.i64.wrap (f_ctHdS r1 + 1) + 1)).tmod 3 == 0))
                (setF (0 + x20.toNat) 6 (T.int IntKind.i64 (IntKind.i64.wrap (f_ctHdS r1 + 1)))
                  (setF (0 + x20.toNat) 5 (T.int IntKind.i64 (f_ctHdS r1))
                    (setF (0 + x20.toNat) (4 + 0) (T.arr 2 (f_mkHdS r1).length (atL Hd.cs (f_mkHdS r1)))
                      (setF (0 + x20.toNat) (4 + 0)
                        (T.lent 2
                          (setF (0 + x20.toNat) (2 + 1)
                              (T.int IntKind.i64
                                (IntKind.i64.wrap (IntKind.i64.wrap (IntKind.i64.wrap (x4 + 1) + 1) + 1)))
                              (setF (0 + x20.toNat) (2 + 0)
                                (T.int IntKind.i64 (IntKind.i64.wrap (IntKind.i64.wrap (x4 + 1) + 1)))
                                (setF (0 + x20.toNat) (0 + 1) (T.int IntKind.i64 (IntKind.i64.wrap (x4 + 1)))
                                  (setF (0 + x20.toNat) (0 + 0) (T.int IntKind.i64 x4) fx2)))
                              (0 + x20.toNat) (4 + 0)).ln)
                        (setF (0 + x20.toNat) (2 + 1)
                          (T.int IntKind.i64 (IntKind.i64.wrap (IntKind.i64.wrap (IntKind.i64.wrap (x4 + 1) + 1) + 1)))
                          (setF (0 + x20.toNat) (2 + 0)
                            (T.int IntKind.i64 (IntKind.i64.wrap (IntKind.i64.wrap (x4 + 1) + 1)))
                            (setF (0 + x20.toNat) (0 + 1) (T.int IntKind.i64 (IntKind.i64.wrap (x4 + 1)))
                              (setF (0 + x20.toNat) (0 + 0) (T.int IntKind.i64 x4) fx2)))))))))
              (0 + x20.toNat) (9 + 0)).ln
          ((T.arr 11 nx2
                  (setF (0 + x20.toNat) 8
                    (T.int IntKind.i64
                      (IntKind.i64.wrap (IntKind.i64.wrap (IntKind.i64.wrap (f_ctHdS r1 + 1) + 1) + 1)))
                    (setF (0 + x20.toNat) 7
                      (T.bool ((IntKind.i64.wrap (IntKind.i64.wrap (f_ctHdS r1 + 1) + 1)).tmod 3 == 0))
                      (setF (0 + x20.toNat) 6 (T.int IntKind.i64 (IntKind.i64.wrap (f_ctHdS r1 + 1)))
                        (setF (0 + x20.toNat) 5 (T.int IntKind.i64 (f_ctHdS r1))
                          (setF (0 + x20.toNat) (4 + 0)
                            (T.arr 2 (f_mkHdS r1).length (atL Hd.cs (f_mkHdS r1)))
                            (setF (0 + x20.toNat) (4 + 0)
                              (T.lent 2
                                (setF (0 + x20.toNat) (2 + 1)
                                    (T.int IntKind.i64
                                      (IntKind.i64.wrap (IntKind.i64.wrap (IntKind.i64.wrap (x4 + 1) + 1) + 1)))
                                    (setF (0 + x20.toNat) (2 + 0)
                                      (T.int IntKind.i64 (IntKind.i64.wrap (IntKind.i64.wrap (x4 + 1) + 1)))
                                      (setF (0 + x20.toNat) (0 + 1) (T.int IntKind.i64 (IntKind.i64.wrap (x4 + 1)))
                                        (setF (0 + x20.toNat) (0 + 0) (T.int IntKind.i64 x4) fx2)))
                                    (0 + x20.toNat) (4 + 0)).ln)
                              (setF (0 + x20.toNat) (2 + 1)
                                (T.int IntKind.i64
                                  (IntKind.i64.wrap (IntKind.i64.wrap (IntKind.i64.wrap (x4 + 1) + 1) + 1)))
                                (setF (0 + x20.toNat) (2 + 0)
                                  (T.int IntKind.i64 (IntKind.i64.wrap (IntKind.i64.wrap (x4 + 1) + 1)))
                                  (setF (0 + x20.toNat) (0 + 1) (T.int IntKind.i64 (IntKind.i64.wrap (x4 + 1)))
                                    (setF (0 + x20.toNat) (0 + 0) (T.int IntKind.i64 x4) fx2))))))))))).get
              [0 + x20.toNat, 9 + 0]).fn)]),
  (0, false,
    [C.tr false
        (T.int IntKind.i64
          (IntKind.i64.wrap
            (IntKind.i64.wrap (IntKind.i64.wrap (IntKind.i64.wrap (f_ctHdS r1 + 1) + 1) + 1) + 1)))])] fun (r2 : List Sf × Int) =>
  gd ((setF (0 + x20.toNat) 8
          (T.int IntKind.i64 (IntKind.i64.wrap (IntKind.i64.wrap (IntKind.i64.wrap (f_ctHdS r1 + 1) + 1) + 1)))
          (setF (0 + x20.toNat) 7
            (T.bool ((IntKind.i64.wrap (IntKind.i64.wrap (f_ctHdS r1 + 1) + 1)).tmod 3 == 0))
            (setF (0 + x20.toNat) 6 (T.int IntKind.i64 (IntKind.i64.wrap (f_ctHdS r1 + 1)))
              (setF (0 + x20.toNat) 5 (T.int IntKind.i64 (f_ctHdS r1))
                (setF (0 + x20.toNat) (4 + 0) (T.arr 2 (f_mkHdS r1).length (atL Hd.cs (f_mkHdS r1)))
                  (setF (0 + x20.toNat) (4 + 0)
                    (T.lent 2
                      (setF (0 + x20.toNat) (2 + 1)
                          (T.int IntKind.i64 (IntKind.i64.wrap (IntKind.i64.wrap (IntKind.i64.wrap (x4 + 1) + 1) + 1)))
                          (setF (0 + x20.toNat) (2 + 0)
                            (T.int IntKind.i64 (IntKind.i64.wrap (IntKind.i64.wrap (x4 + 1) + 1)))
                            (setF (0 + x20.toNat) (0 + 1) (T.int IntKind.i64 (IntKind.i64.wrap (x4 + 1)))
                              (setF (0 + x20.toNat) (0 + 0) (T.int IntKind.i64 x4) fx2)))
                          (0 + x20.toNat) (4 + 0)).ln)
                    (setF (0 + x20.toNat) (2 + 1)
                      (T.int IntKind.i64 (IntKind.i64.wrap (IntKind.i64.wrap (IntKind.i64.wrap (x4 + 1) + 1) + 1)))
                      (setF (0 + x20.toNat) (2 + 0)
                        (T.int IntKind.i64 (IntKind.i64.wrap (IntKind.i64.wrap (x4 + 1) + 1)))
                        (setF (0 + x20.toNat) (0 + 1) (T.int IntKind.i64 (IntKind.i64.wrap (x4 + 1)))
                          (setF (0 + x20.toNat) (0 + 0) (T.int IntKind.i64 x4) fx2)))))))))
          (0 + x20.toNat) (9 + 0)).ln.beq
    (f_mkSfS r2).length &&
  ((0 + x20.toNat).blt nx2 && true && true)) <|
  gd (decide (0 ≤ x20) && (x20.toNat.blt l.length && true)) <|
  gd ((0 + x20.toNat).blt nx2 && true &&
  ((setF (0 + x20.toNat) (9 + 0) (T.arr 1 (f_mkSfS r2).length (atL Sf.cs (f_mkSfS r2)))
        (setF (0 + x20.toNat) (9 + 0)
          (T.lent 1
            (setF (0 + x20.toNat) 8
                (T.int IntKind.i64
                  (IntKind.i64.wrap (IntKind.i64.wrap (IntKind.i64.wrap (f_ctHdS r1 + 1) + 1) + 1)))
                (setF (0 + x20.toNat) 7
                  (T.bool ((IntKind.i64.wrap (IntKind.i64.wrap (f_ctHdS r1 + 1) + 1)).tmod 3 == 0))
                  (setF (0 + x20.toNat) 6 (T.int IntKind.i64 (IntKind.i64.wrap (f_ctHdS r1 + 1)))
                    (setF (0 + x20.toNat) 5 (T.int IntKind.i64 (f_ctHdS r1))
                      (setF (0 + x20.toNat) (4 + 0) (T.arr 2 (f_mkHdS r1).length (atL Hd.cs (f_mkHdS r1)))
                        (setF (0 + x20.toNat) (4 + 0)
                          (T.lent 2
                            (setF (0 + x20.toNat) (2 + 1)
                                (T.int IntKind.i64
                                  (IntKind.i64.wrap (IntKind.i64.wrap (IntKind.i64.wrap (x4 + 1) + 1) + 1)))
                                (setF (0 + x20.toNat) (2 + 0)
                                  (T.int IntKind.i64 (IntKind.i64.wrap (IntKind.i64.wrap (x4 + 1) + 1)))
                                  (setF (0 + x20.toNat) (0 + 1) (T.int IntKind.i64 (IntKind.i64.wrap (x4 + 1)))
                                    (setF (0 + x20.toNat) (0 + 0) (T.int IntKind.i64 x4) fx2)))
                                (0 + x20.toNat) (4 + 0)).ln)
                          (setF (0 + x20.toNat) (2 + 1)
                            (T.int IntKind.i64
                              (IntKind.i64.wrap (IntKind.i64.wrap (IntKind.i64.wrap (x4 + 1) + 1) + 1)))
                            (setF (0 + x20.toNat) (2 + 0)
                              (T.int IntKind.i64 (IntKind.i64.wrap (IntKind.i64.wrap (x4 + 1) + 1)))
                              (setF (0 + x20.toNat) (0 + 1) (T.int IntKind.i64 (IntKind.i64.wrap (x4 + 1)))
                                (setF (0 + x20.toNat) (0 + 0) (T.int IntKind.i64 x4) fx2)))))))))
                (0 + x20.toNat) (9 + 0)).ln)
          (setF (0 + x20.toNat) 8
            (T.int IntKind.i64 (IntKind.i64.wrap (IntKind.i64.wrap (IntKind.i64.wrap (f_ctHdS r1 + 1) + 1) + 1)))
            (setF (0 + x20.toNat) 7
              (T.bool ((IntKind.i64.wrap (IntKind.i64.wrap (f_ctHdS r1 + 1) + 1)).tmod 3 == 0))
              (setF (0 + x20.toNat) 6 (T.int IntKind.i64 (IntKind.i64.wrap (f_ctHdS r1 + 1)))
                (setF (0 + x20.toNat) 5 (T.int IntKind.i64 (f_ctHdS r1))
                  (setF (0 + x20.toNat) (4 + 0) (T.arr 2 (f_mkHdS r1).length (atL Hd.cs (f_mkHdS r1)))
                    (setF (0 + x20.toNat) (4 + 0)
                      (T.lent 2
                        (setF (0 + x20.toNat) (2 + 1)
                            (T.int IntKind.i64
                              (IntKind.i64.wrap (IntKind.i64.wrap (IntKind.i64.wrap (x4 + 1) + 1) + 1)))
                            (setF (0 + x20.toNat) (2 + 0)
                              (T.int IntKind.i64 (IntKind.i64.wrap (IntKind.i64.wrap (x4 + 1) + 1)))
                              (setF (0 + x20.toNat) (0 + 1) (T.int IntKind.i64 (IntKind.i64.wrap (x4 + 1)))
                                (setF (0 + x20.toNat) (0 + 0) (T.int IntKind.i64 x4) fx2)))
                            (0 + x20.toNat) (4 + 0)).ln)
                      (setF (0 + x20.toNat) (2 + 1)
                        (T.int IntKind.i64 (IntKind.i64.wrap (IntKind.i64.wrap (IntKind.i64.wrap (x4 + 1) + 1) + 1)))
                        (setF (0 + x20.toNat) (2 + 0)
                          (T.int IntKind.i64 (IntKind.i64.wrap (IntKind.i64.wrap (x4 + 1) + 1)))
                          (setF (0 + x20.toNat) (0 + 1) (T.int IntKind.i64 (IntKind.i64.wrap (x4 + 1)))
                            (setF (0 + x20.toNat) (0 + 0) (T.int IntKind.i64 x4) fx2)))))))))))
        (0 + x20.toNat) (10 + 0)).isArr &&
    (setF (0 + x20.toNat) (9 + 0) (T.arr 1 (f_mkSfS r2).length (atL Sf.cs (f_mkSfS r2)))
            (setF (0 + x20.toNat) (9 + 0)
              (T.lent 1
                (setF (0 + x20.toNat) 8
                    (T.int IntKind.i64
                      (IntKind.i64.wrap (IntKind.i64.wrap (IntKind.i64.wrap (f_ctHdS r1 + 1) + 1) + 1)))
                    (setF (0 + x20.toNat) 7
                      (T.bool ((IntKind.i64.wrap (IntKind.i64.wrap (f_ctHdS r1 + 1) + 1)).tmod 3 == 0))
                      (setF (0 + x20.toNat) 6 (T.int IntKind.i64 (IntKind.i64.wrap (f_ctHdS r1 + 1)))
                        (setF (0 + x20.toNat) 5 (T.int IntKind.i64 (f_ctHdS r1))
                          (setF (0 + x20.toNat) (4 + 0)
                            (T.arr 2 (f_mkHdS r1).length (atL Hd.cs (f_mkHdS r1)))
                            (setF (0 + x20.toNat) (4 + 0)
                              (T.lent 2
                                (setF (0 + x20.toNat) (2 + 1)
                                    (T.int IntKind.i64
                                      (IntKind.i64.wrap (IntKind.i64.wrap (IntKind.i64.wrap (x4 + 1) + 1) + 1)))
                                    (setF (0 + x20.toNat) (2 + 0)
                                      (T.int IntKind.i64 (IntKind.i64.wrap (IntKind.i64.wrap (x4 + 1) + 1)))
                                      (setF (0 + x20.toNat) (0 + 1) (T.int IntKind.i64 (IntKind.i64.wrap (x4 + 1)))
                                        (setF (0 + x20.toNat) (0 + 0) (T.int IntKind.i64 x4) fx2)))
                                    (0 + x20.toNat) (4 + 0)).ln)
                              (setF (0 + x20.toNat) (2 + 1)
                                (T.int IntKind.i64
                                  (IntKind.i64.wrap (IntKind.i64.wrap (IntKind.i64.wrap (x4 + 1) + 1) + 1)))
                                (setF (0 + x20.toNat) (2 + 0)
                                  (T.int IntKind.i64 (IntKind.i64.wrap (IntKind.i64.wrap (x4 + 1) + 1)))
                                  (setF (0 + x20.toNat) (0 + 1) (T.int IntKind.i64 (IntKind.i64.wrap (x4 + 1)))
                                    (setF (0 + x20.toNat) (0 + 0) (T.int IntKind.i64 x4) fx2)))))))))
                    (0 + x20.toNat) (9 + 0)).ln)
              (setF (0 + x20.toNat) 8
                (T.int IntKind.i64
                  (IntKind.i64.wrap (IntKind.i64.wrap (IntKind.i64.wrap (f_ctHdS r1 + 1) + 1) + 1)))
                (setF (0 + x20.toNat) 7
                  (T.bool ((IntKind.i64.wrap (IntKind.i64.wrap (f_ctHdS r1 + 1) + 1)).tmod 3 == 0))
                  (setF (0 + x20.toNat) 6 (T.int IntKind.i64 (IntKind.i64.wrap (f_ctHdS r1 + 1)))
                    (setF (0 + x20.toNat) 5 (T.int IntKind.i64 (f_ctHdS r1))
                      (setF (0 + x20.toNat) (4 + 0) (T.arr 2 (f_mkHdS r1).length (atL Hd.cs (f_mkHdS r1)))
                        (setF (0 + x20.toNat) (4 + 0)
                          (T.lent 2
                            (setF (0 + x20.toNat) (2 + 1)
                                (T.int IntKind.i64
                                  (IntKind.i64.wrap (IntKind.i64.wrap (IntKind.i64.wrap (x4 + 1) + 1) + 1)))
                                (setF (0 + x20.toNat) (2 + 0)
                                  (T.int IntKind.i64 (IntKind.i64.wrap (IntKind.i64.wrap (x4 + 1) + 1)))
                                  (setF (0 + x20.toNat) (0 + 1) (T.int IntKind.i64 (IntKind.i64.wrap (x4 + 1)))
                                    (setF (0 + x20.toNat) (0 + 0) (T.int IntKind.i64 x4) fx2)))
                                (0 + x20.toNat) (4 + 0)).ln)
                          (setF (0 + x20.toNat) (2 + 1)
                            (T.int IntKind.i64
                              (IntKind.i64.wrap (IntKind.i64.wrap (IntKind.i64.wrap (x4 + 1) + 1) + 1)))
                            (setF (0 + x20.toNat) (2 + 0)
                              (T.int IntKind.i64 (IntKind.i64.wrap (IntKind.i64.wrap (x4 + 1) + 1)))
                              (setF (0 + x20.toNat) (0 + 1) (T.int IntKind.i64 (IntKind.i64.wrap (x4 + 1)))
                                (setF (0 + x20.toNat) (0 + 0) (T.int IntKind.i64 x4) fx2)))))))))))
            (0 + x20.toNat) (10 + 0)).wd.beq
      1)) <|
  gd ((0 + x20.toNat).blt nx2 && true && true &&
  ((T.arr 11 nx2
          (setF (0 + x20.toNat) (9 + 0) (T.arr 1 (f_mkSfS r2).length (atL Sf.cs (f_mkSfS r2)))
            (setF (0 + x20.toNat) (9 + 0)
              (T.lent 1
                (setF (0 + x20.toNat) 8
                    (T.int IntKind.i64
                      (IntKind.i64.wrap (IntKind.i64.wrap (IntKind.i64.wrap (f_ctHdS r1 + 1) + 1) + 1)))
                    (setF (0 + x20.toNat) 7
                      (T.bool ((IntKind.i64.wrap (IntKind.i64.wrap (f_ctHdS r1 + 1) + 1)).tmod 3 == 0))
                      (setF (0 + x20.toNat) 6 (T.int IntKind.i64 (IntKind.i64.wrap (f_ctHdS r1 + 1)))
                        (setF (0 + x20.toNat) 5 (T.int IntKind.i64 (f_ctHdS r1))
                          (setF (0 + x20.toNat) (4 + 0)
                            (T.arr 2 (f_mkHdS r1).length (atL Hd.cs (f_mkHdS r1)))
                            (setF (0 + x20.toNat) (4 + 0)
                              (T.lent 2
                                (setF (0 + x20.toNat) (2 + 1)
                                    (T.int IntKind.i64
                                      (IntKind.i64.wrap (IntKind.i64.wrap (IntKind.i64.wrap (x4 + 1) + 1) + 1)))
                                    (setF (0 + x20.toNat) (2 + 0)
                                      (T.int IntKind.i64 (IntKind.i64.wrap (IntKind.i64.wrap (x4 + 1) + 1)))
                                      (setF (0 + x20.toNat) (0 + 1) (T.int IntKind.i64 (IntKind.i64.wrap (x4 + 1)))
                                        (setF (0 + x20.toNat) (0 + 0) (T.int IntKind.i64 x4) fx2)))
                                    (0 + x20.toNat) (4 + 0)).ln)
                              (setF (0 + x20.toNat) (2 + 1)
                                (T.int IntKind.i64
                                  (IntKind.i64.wrap (IntKind.i64.wrap (IntKind.i64.wrap (x4 + 1) + 1) + 1)))
                                (setF (0 + x20.toNat) (2 + 0)
                                  (T.int IntKind.i64 (IntKind.i64.wrap (IntKind.i64.wrap (x4 + 1) + 1)))
                                  (setF (0 + x20.toNat) (0 + 1) (T.int IntKind.i64 (IntKind.i64.wrap (x4 + 1)))
                                    (setF (0 + x20.toNat) (0 + 0) (T.int IntKind.i64 x4) fx2)))))))))
                    (0 + x20.toNat) (9 + 0)).ln)
              (setF (0 + x20.toNat) 8
                (T.int IntKind.i64
                  (IntKind.i64.wrap (IntKind.i64.wrap (IntKind.i64.wrap (f_ctHdS r1 + 1) + 1) + 1)))
                (setF (0 + x20.toNat) 7
                  (T.bool ((IntKind.i64.wrap (IntKind.i64.wrap (f_ctHdS r1 + 1) + 1)).tmod 3 == 0))
                  (setF (0 + x20.toNat) 6 (T.int IntKind.i64 (IntKind.i64.wrap (f_ctHdS r1 + 1)))
                    (setF (0 + x20.toNat) 5 (T.int IntKind.i64 (f_ctHdS r1))
                      (setF (0 + x20.toNat) (4 + 0) (T.arr 2 (f_mkHdS r1).length (atL Hd.cs (f_mkHdS r1)))
                        (setF (0 + x20.toNat) (4 + 0)
                          (T.lent 2
                            (setF (0 + x20.toNat) (2 + 1)
                                (T.int IntKind.i64
                                  (IntKind.i64.wrap (IntKind.i64.wrap (IntKind.i64.wrap (x4 + 1) + 1) + 1)))
                                (setF (0 + x20.toNat) (2 + 0)
                                  (T.int IntKind.i64 (IntKind.i64.wrap (IntKind.i64.wrap (x4 + 1) + 1)))
                                  (setF (0 + x20.toNat) (0 + 1) (T.int IntKind.i64 (IntKind.i64.wrap (x4 + 1)))
                                    (setF (0 + x20.toNat) (0 + 0) (T.int IntKind.i64 x4) fx2)))
                                (0 + x20.toNat) (4 + 0)).ln)
                          (setF (0 + x20.toNat) (2 + 1)
                            (T.int IntKind.i64
                              (IntKind.i64.wrap (IntKind.i64.wrap (IntKind.i64.wrap (x4 + 1) + 1) + 1)))
                            (setF (0 + x20.toNat) (2 + 0)
                              (T.int IntKind.i64 (IntKind.i64.wrap (IntKind.i64.wrap (x4 + 1) + 1)))
                              (setF (0 + x20.toNat) (0 + 1) (T.int IntKind.i64 (IntKind.i64.wrap (x4 + 1)))
                                (setF (0 + x20.toNat) (0 + 0) (T.int IntKind.i64 x4) fx2))))))))))))).get
      [0 + x20.toNat, 10 + 0]).isArr) <|
  gd ((setF (0 + x20.toNat) (9 + 0) (T.arr 1 (f_mkSfS r2).length (atL Sf.cs (f_mkSfS r2)))
          (setF (0 + x20.toNat) (9 + 0)
            (T.lent 1
              (setF (0 + x20.toNat) 8
                  (T.int IntKind.i64
                    (IntKind.i64.wrap (IntKind.i64.wrap (IntKind.i64.wrap (f_ctHdS r1 + 1) + 1) + 1)))
                  (setF (0 + x20.toNat) 7
                    (T.bool ((IntKind.i64.wrap (IntKind.i64.wrap (f_ctHdS r1 + 1) + 1)).tmod 3 == 0))
                    (setF (0 + x20.toNat) 6 (T.int IntKind.i64 (IntKind.i64.wrap (f_ctHdS r1 + 1)))
                      (setF (0 + x20.toNat) 5 (T.int IntKind.i64 (f_ctHdS r1))
                        (setF (0 + x20.toNat) (4 + 0)
                          (T.arr 2 (f_mkHdS r1).length (atL Hd.cs (f_mkHdS r1)))
                          (setF (0 + x20.toNat) (4 + 0)
                            (T.lent 2
                              (setF (0 + x20.toNat) (2 + 1)
                                  (T.int IntKind.i64
                                    (IntKind.i64.wrap (IntKind.i64.wrap (IntKind.i64.wrap (x4 + 1) + 1) + 1)))
                                  (setF (0 + x20.toNat) (2 + 0)
                                    (T.int IntKind.i64 (IntKind.i64.wrap (IntKind.i64.wrap (x4 + 1) + 1)))
                                    (setF (0 + x20.toNat) (0 + 1) (T.int IntKind.i64 (IntKind.i64.wrap (x4 + 1)))
                                      (setF (0 + x20.toNat) (0 + 0) (T.int IntKind.i64 x4) fx2)))
                                  (0 + x20.toNat) (4 + 0)).ln)
                            (setF (0 + x20.toNat) (2 + 1)
                              (T.int IntKind.i64
                                (IntKind.i64.wrap (IntKind.i64.wrap (IntKind.i64.wrap (x4 + 1) + 1) + 1)))
                              (setF (0 + x20.toNat) (2 + 0)
                                (T.int IntKind.i64 (IntKind.i64.wrap (IntKind.i64.wrap (x4 + 1) + 1)))
                                (setF (0 + x20.toNat) (0 + 1) (T.int IntKind.i64 (IntKind.i64.wrap (x4 + 1)))
                                  (setF (0 + x20.toNat) (0 + 0) (T.int IntKind.i64 x4) fx2)))))))))
                  (0 + x20.toNat) (9 + 0)).ln)
            (setF (0 + x20.toNat) 8
              (T.int IntKind.i64
                (IntKind.i64.wrap (IntKind.i64.wrap (IntKind.i64.wrap (f_ctHdS r1 + 1) + 1) + 1)))
              (setF (0 + x20.toNat) 7
                (T.bool ((IntKind.i64.wrap (IntKind.i64.wrap (f_ctHdS r1 + 1) + 1)).tmod 3 == 0))
                (setF (0 + x20.toNat) 6 (T.int IntKind.i64 (IntKind.i64.wrap (f_ctHdS r1 + 1)))
                  (setF (0 + x20.toNat) 5 (T.int IntKind.i64 (f_ctHdS r1))
                    (setF (0 + x20.toNat) (4 + 0) (T.arr 2 (f_mkHdS r1).length (atL Hd.cs (f_mkHdS r1)))
                      (setF (0 + x20.toNat) (4 + 0)
                        (T.lent 2
                          (setF (0 + x20.toNat) (2 + 1)
                              (T.int IntKind.i64
                                (IntKind.i64.wrap (IntKind.i64.wrap (IntKind.i64.wrap (x4 + 1) + 1) + 1)))
                              (setF (0 + x20.toNat) (2 + 0)
                                (T.int IntKind.i64 (IntKind.i64.wrap (IntKind.i64.wrap (x4 + 1) + 1)))
                                (setF (0 + x20.toNat) (0 + 1) (T.int IntKind.i64 (IntKind.i64.wrap (x4 + 1)))
                                  (setF (0 + x20.toNat) (0 + 0) (T.int IntKind.i64 x4) fx2)))
                              (0 + x20.toNat) (4 + 0)).ln)
                        (setF (0 + x20.toNat) (2 + 1)
                          (T.int IntKind.i64 (IntKind.i64.wrap (IntKind.i64.wrap (IntKind.i64.wrap (x4 + 1) + 1) + 1)))
                          (setF (0 + x20.toNat) (2 + 0)
                            (T.int IntKind.i64 (IntKind.i64.wrap (IntKind.i64.wrap (x4 + 1) + 1)))
                            (setF (0 + x20.toNat) (0 + 1) (T.int IntKind.i64 (IntKind.i64.wrap (x4 + 1)))
                              (setF (0 + x20.toNat) (0 + 0) (T.int IntKind.i64 x4) fx2)))))))))))
          (0 + x20.toNat) (10 + 0)).ln.beq
    ((T.arr 11 nx2
            (setF (0 + x20.toNat) (9 + 0) (T.arr 1 (f_mkSfS r2).length (atL Sf.cs (f_mkSfS r2)))
              (setF (0 + x20.toNat) (9 + 0)
                (T.lent 1
                  (setF (0 + x20.toNat) 8
                      (T.int IntKind.i64
                        (IntKind.i64.wrap (IntKind.i64.wrap (IntKind.i64.wrap (f_ctHdS r1 + 1) + 1) + 1)))
                      (setF (0 + x20.toNat) 7
                        (T.bool ((IntKind.i64.wrap (IntKind.i64.wrap (f_ctHdS r1 + 1) + 1)).tmod 3 == 0))
                        (setF (0 + x20.toNat) 6 (T.int IntKind.i64 (IntKind.i64.wrap (f_ctHdS r1 + 1)))
                          (setF (0 + x20.toNat) 5 (T.int IntKind.i64 (f_ctHdS r1))
                            (setF (0 + x20.toNat) (4 + 0)
                              (T.arr 2 (f_mkHdS r1).length (atL Hd.cs (f_mkHdS r1)))
                              (setF (0 + x20.toNat) (4 + 0)
                                (T.lent 2
                                  (setF (0 + x20.toNat) (2 + 1)
                                      (T.int IntKind.i64
                                        (IntKind.i64.wrap (IntKind.i64.wrap (IntKind.i64.wrap (x4 + 1) + 1) + 1)))
                                      (setF (0 + x20.toNat) (2 + 0)
                                        (T.int IntKind.i64 (IntKind.i64.wrap (IntKind.i64.wrap (x4 + 1) + 1)))
                                        (setF (0 + x20.toNat) (0 + 1) (T.int IntKind.i64 (IntKind.i64.wrap (x4 + 1)))
                                          (setF (0 + x20.toNat) (0 + 0) (T.int IntKind.i64 x4) fx2)))
                                      (0 + x20.toNat) (4 + 0)).ln)
                                (setF (0 + x20.toNat) (2 + 1)
                                  (T.int IntKind.i64
                                    (IntKind.i64.wrap (IntKind.i64.wrap (IntKind.i64.wrap (x4 + 1) + 1) + 1)))
                                  (setF (0 + x20.toNat) (2 + 0)
                                    (T.int IntKind.i64 (IntKind.i64.wrap (IntKind.i64.wrap (x4 + 1) + 1)))
                                    (setF (0 + x20.toNat) (0 + 1) (T.int IntKind.i64 (IntKind.i64.wrap (x4 + 1)))
                                      (setF (0 + x20.toNat) (0 + 0) (T.int IntKind.i64 x4) fx2)))))))))
                      (0 + x20.toNat) (9 + 0)).ln)
                (setF (0 + x20.toNat) 8
                  (T.int IntKind.i64
                    (IntKind.i64.wrap (IntKind.i64.wrap (IntKind.i64.wrap (f_ctHdS r1 + 1) + 1) + 1)))
                  (setF (0 + x20.toNat) 7
                    (T.bool ((IntKind.i64.wrap (IntKind.i64.wrap (f_ctHdS r1 + 1) + 1)).tmod 3 == 0))
                    (setF (0 + x20.toNat) 6 (T.int IntKind.i64 (IntKind.i64.wrap (f_ctHdS r1 + 1)))
                      (setF (0 + x20.toNat) 5 (T.int IntKind.i64 (f_ctHdS r1))
                        (setF (0 + x20.toNat) (4 + 0)
                          (T.arr 2 (f_mkHdS r1).length (atL Hd.cs (f_mkHdS r1)))
                          (setF (0 + x20.toNat) (4 + 0)
                            (T.lent 2
                              (setF (0 + x20.toNat) (2 + 1)
                                  (T.int IntKind.i64
                                    (IntKind.i64.wrap (IntKind.i64.wrap (IntKind.i64.wrap (x4 + 1) + 1) + 1)))
                                  (setF (0 + x20.toNat) (2 + 0)
                                    (T.int IntKind.i64 (IntKind.i64.wrap (IntKind.i64.wrap (x4 + 1) + 1)))
                                    (setF (0 + x20.toNat) (0 + 1) (T.int IntKind.i64 (IntKind.i64.wrap (x4 + 1)))
                                      (setF (0 + x20.toNat) (0 + 0) (T.int IntKind.i64 x4) fx2)))
                                  (0 + x20.toNat) (4 + 0)).ln)
                            (setF (0 + x20.toNat) (2 + 1)
                              (T.int IntKind.i64
                                (IntKind.i64.wrap (IntKind.i64.wrap (IntKind.i64.wrap (x4 + 1) + 1) + 1)))
                              (setF (0 + x20.toNat) (2 + 0)
                                (T.int IntKind.i64 (IntKind.i64.wrap (IntKind.i64.wrap (x4 + 1) + 1)))
                                (setF (0 + x20.toNat) (0 + 1) (T.int IntKind.i64 (IntKind.i64.wrap (x4 + 1)))
                                  (setF (0 + x20.toNat) (0 + 0) (T.int IntKind.i64 x4) fx2))))))))))))).get
        [0 + x20.toNat, 10 + 0]).ln &&
  Nat.beq 1
    ((T.arr 11 nx2
            (setF (0 + x20.toNat) (9 + 0) (T.arr 1 (f_mkSfS r2).length (atL Sf.cs (f_mkSfS r2)))
              (setF (0 + x20.toNat) (9 + 0)
                (T.lent 1
                  (setF (0 + x20.toNat) 8
                      (T.int IntKind.i64
                        (IntKind.i64.wrap (IntKind.i64.wrap (IntKind.i64.wrap (f_ctHdS r1 + 1) + 1) + 1)))
                      (setF (0 + x20.toNat) 7
                        (T.bool ((IntKind.i64.wrap (IntKind.i64.wrap (f_ctHdS r1 + 1) + 1)).tmod 3 == 0))
                        (setF (0 + x20.toNat) 6 (T.int IntKind.i64 (IntKind.i64.wrap (f_ctHdS r1 + 1)))
                          (setF (0 + x20.toNat) 5 (T.int IntKind.i64 (f_ctHdS r1))
                            (setF (0 + x20.toNat) (4 + 0)
                              (T.arr 2 (f_mkHdS r1).length (atL Hd.cs (f_mkHdS r1)))
                              (setF (0 + x20.toNat) (4 + 0)
                                (T.lent 2
                                  (setF (0 + x20.toNat) (2 + 1)
                                      (T.int IntKind.i64
                                        (IntKind.i64.wrap (IntKind.i64.wrap (IntKind.i64.wrap (x4 + 1) + 1) + 1)))
                                      (setF (0 + x20.toNat) (2 + 0)
                                        (T.int IntKind.i64 (IntKind.i64.wrap (IntKind.i64.wrap (x4 + 1) + 1)))
                                        (setF (0 + x20.toNat) (0 + 1) (T.int IntKind.i64 (IntKind.i64.wrap (x4 + 1)))
                                          (setF (0 + x20.toNat) (0 + 0) (T.int IntKind.i64 x4) fx2)))
                                      (0 + x20.toNat) (4 + 0)).ln)
                                (setF (0 + x20.toNat) (2 + 1)
                                  (T.int IntKind.i64
                                    (IntKind.i64.wrap (IntKind.i64.wrap (IntKind.i64.wrap (x4 + 1) + 1) + 1)))
                                  (setF (0 + x20.toNat) (2 + 0)
                                    (T.int IntKind.i64 (IntKind.i64.wrap (IntKind.i64.wrap (x4 + 1) + 1)))
                                    (setF (0 + x20.toNat) (0 + 1) (T.int IntKind.i64 (IntKind.i64.wrap (x4 + 1)))
                                      (setF (0 + x20.toNat) (0 + 0) (T.int IntKind.i64 x4) fx2)))))))))
                      (0 + x20.toNat) (9 + 0)).ln)
                (setF (0 + x20.toNat) 8
                  (T.int IntKind.i64
                    (IntKind.i64.wrap (IntKind.i64.wrap (IntKind.i64.wrap (f_ctHdS r1 + 1) + 1) + 1)))
                  (setF (0 + x20.toNat) 7
                    (T.bool ((IntKind.i64.wrap (IntKind.i64.wrap (f_ctHdS r1 + 1) + 1)).tmod 3 == 0))
                    (setF (0 + x20.toNat) 6 (T.int IntKind.i64 (IntKind.i64.wrap (f_ctHdS r1 + 1)))
                      (setF (0 + x20.toNat) 5 (T.int IntKind.i64 (f_ctHdS r1))
                        (setF (0 + x20.toNat) (4 + 0)
                          (T.arr 2 (f_mkHdS r1).length (atL Hd.cs (f_mkHdS r1)))
                          (setF (0 + x20.toNat) (4 + 0)
                            (T.lent 2
                              (setF (0 + x20.toNat) (2 + 1)
                                  (T.int IntKind.i64
                                    (IntKind.i64.wrap (IntKind.i64.wrap (IntKind.i64.wrap (x4 + 1) + 1) + 1)))
                                  (setF (0 + x20.toNat) (2 + 0)
                                    (T.int IntKind.i64 (IntKind.i64.wrap (IntKind.i64.wrap (x4 + 1) + 1)))
                                    (setF (0 + x20.toNat) (0 + 1) (T.int IntKind.i64 (IntKind.i64.wrap (x4 + 1)))
                                      (setF (0 + x20.toNat) (0 + 0) (T.int IntKind.i64 x4) fx2)))
                                  (0 + x20.toNat) (4 + 0)).ln)
                            (setF (0 + x20.toNat) (2 + 1)
                              (T.int IntKind.i64
                                (IntKind.i64.wrap (IntKind.i64.wrap (IntKind.i64.wrap (x4 + 1) + 1) + 1)))
                              (setF (0 + x20.toNat) (2 + 0)
                                (T.int IntKind.i64 (IntKind.i64.wrap (IntKind.i64.wrap (x4 + 1) + 1)))
                                (setF (0 + x20.toNat) (0 + 1) (T.int IntKind.i64 (IntKind.i64.wrap (x4 + 1)))
                                  (setF (0 + x20.toNat) (0 + 0) (T.int IntKind.i64 x4) fx2))))))))))))).get
        [0 + x20.toNat, 10 + 0]).wd) <|
  entK okh_LI eam_LI (fun x => x) [(1, false,
    [C.tr true
        (T.arr 1
          (setF (0 + x20.toNat) (9 + 0) (T.arr 1 (f_mkSfS r2).length (atL Sf.cs (f_mkSfS r2)))
              (setF (0 + x20.toNat) (9 + 0)
                (T.lent 1
                  (setF (0 + x20.toNat) 8
                      (T.int IntKind.i64
                        (IntKind.i64.wrap (IntKind.i64.wrap (IntKind.i64.wrap (f_ctHdS r1 + 1) + 1) + 1)))
                      (setF (0 + x20.toNat) 7
                        (T.bool ((IntKind.i64.wrap (IntKind.i64.wrap (f_ctHdS r1 + 1) + 1)).tmod 3 == 0))
                        (setF (0 + x20.toNat) 6 (T.int IntKind.i64 (IntKind.i64.wrap (f_ctHdS r1 + 1)))
                          (setF (0 + x20.toNat) 5 (T.int IntKind.i64 (f_ctHdS r1))
                            (setF (0 + x20.toNat) (4 + 0)
                              (T.arr 2 (f_mkHdS r1).length (atL Hd.cs (f_mkHdS r1)))
                              (setF (0 + x20.toNat) (4 + 0)
                                (T.lent 2
                                  (setF (0 + x20.toNat) (2 + 1)
                                      (T.int IntKind.i64
                                        (IntKind.i64.wrap (IntKind.i64.wrap (IntKind.i64.wrap (x4 + 1) + 1) + 1)))
                                      (setF (0 + x20.toNat) (2 + 0)
                                        (T.int IntKind.i64 (IntKind.i64.wrap (IntKind.i64.wrap (x4 + 1) + 1)))
                                        (setF (0 + x20.toNat) (0 + 1) (T.int IntKind.i64 (IntKind.i64.wrap (x4 + 1)))
                                          (setF (0 + x20.toNat) (0 + 0) (T.int IntKind.i64 x4) fx2)))
                                      (0 + x20.toNat) (4 + 0)).ln)
                                (setF (0 + x20.toNat) (2 + 1)
                                  (T.int IntKind.i64
                                    (IntKind.i64.wrap (IntKind.i64.wrap (IntKind.i64.wrap (x4 + 1) + 1) + 1)))
                                  (setF (0 + x20.toNat) (2 + 0)
                                    (T.int IntKind.i64 (IntKind.i64.wrap (IntKind.i64.wrap (x4 + 1) + 1)))
                                    (setF (0 + x20.toNat) (0 + 1) (T.int IntKind.i64 (IntKind.i64.wrap (x4 + 1)))
                                      (setF (0 + x20.toNat) (0 + 0) (T.int IntKind.i64 x4) fx2)))))))))
                      (0 + x20.toNat) (9 + 0)).ln)
                (setF (0 + x20.toNat) 8
                  (T.int IntKind.i64
                    (IntKind.i64.wrap (IntKind.i64.wrap (IntKind.i64.wrap (f_ctHdS r1 + 1) + 1) + 1)))
                  (setF (0 + x20.toNat) 7
                    (T.bool ((IntKind.i64.wrap (IntKind.i64.wrap (f_ctHdS r1 + 1) + 1)).tmod 3 == 0))
                    (setF (0 + x20.toNat) 6 (T.int IntKind.i64 (IntKind.i64.wrap (f_ctHdS r1 + 1)))
                      (setF (0 + x20.toNat) 5 (T.int IntKind.i64 (f_ctHdS r1))
                        (setF (0 + x20.toNat) (4 + 0)
                          (T.arr 2 (f_mkHdS r1).length (atL Hd.cs (f_mkHdS r1)))
                          (setF (0 + x20.toNat) (4 + 0)
                            (T.lent 2
                              (setF (0 + x20.toNat) (2 + 1)
                                  (T.int IntKind.i64
                                    (IntKind.i64.wrap (IntKind.i64.wrap (IntKind.i64.wrap (x4 + 1) + 1) + 1)))
                                  (setF (0 + x20.toNat) (2 + 0)
                                    (T.int IntKind.i64 (IntKind.i64.wrap (IntKind.i64.wrap (x4 + 1) + 1)))
                                    (setF (0 + x20.toNat) (0 + 1) (T.int IntKind.i64 (IntKind.i64.wrap (x4 + 1)))
                                      (setF (0 + x20.toNat) (0 + 0) (T.int IntKind.i64 x4) fx2)))
                                  (0 + x20.toNat) (4 + 0)).ln)
                            (setF (0 + x20.toNat) (2 + 1)
                              (T.int IntKind.i64
                                (IntKind.i64.wrap (IntKind.i64.wrap (IntKind.i64.wrap (x4 + 1) + 1) + 1)))
                              (setF (0 + x20.toNat) (2 + 0)
                                (T.int IntKind.i64 (IntKind.i64.wrap (IntKind.i64.wrap (x4 + 1) + 1)))
                                (setF (0 + x20.toNat) (0 + 1) (T.int IntKind.i64 (IntKind.i64.wrap (x4 + 1)))
                                  (setF (0 + x20.toNat) (0 + 0) (T.int IntKind.i64 x4) fx2)))))))))))
              (0 + x20.toNat) (10 + 0)).ln
          ((T.arr 11 nx2
                  (setF (0 + x20.toNat) (9 + 0) (T.arr 1 (f_mkSfS r2).length (atL Sf.cs (f_mkSfS r2)))
                    (setF (0 + x20.toNat) (9 + 0)
                      (T.lent 1
                        (setF (0 + x20.toNat) 8
                            (T.int IntKind.i64
                              (IntKind.i64.wrap (IntKind.i64.wrap (IntKind.i64.wrap (f_ctHdS r1 + 1) + 1) + 1)))
                            (setF (0 + x20.toNat) 7
                              (T.bool ((IntKind.i64.wrap (IntKind.i64.wrap (f_ctHdS r1 + 1) + 1)).tmod 3 == 0))
                              (setF (0 + x20.toNat) 6 (T.int IntKind.i64 (IntKind.i64.wrap (f_ctHdS r1 + 1)))
                                (setF (0 + x20.toNat) 5 (T.int IntKind.i64 (f_ctHdS r1))
                                  (setF (0 + x20.toNat) (4 + 0)
                                    (T.arr 2 (f_mkHdS r1).length (atL Hd.cs (f_mkHdS r1)))
                                    (setF (0 + x20.toNat) (4 + 0)
                                      (T.lent 2
                                        (setF (0 + x20.toNat) (2 + 1)
                                            (T.int IntKind.i64
                                              (IntKind.i64.wrap (IntKind.i64.wrap (IntKind.i64.wrap (x4 + 1) + 1) + 1)))
                                            (setF (0 + x20.toNat) (2 + 0)
                                              (T.int IntKind.i64 (IntKind.i64.wrap (IntKind.i64.wrap (x4 + 1) + 1)))
                                              (setF (0 + x20.toNat) (0 + 1)
                                                (T.int IntKind.i64 (IntKind.i64.wrap (x4 + 1)))
                                                (setF (0 + x20.toNat) (0 + 0) (T.int IntKind.i64 x4) fx2)))
                                            (0 + x20.toNat) (4 + 0)).ln)
                                      (setF (0 + x20.toNat) (2 + 1)
                                        (T.int IntKind.i64
                                          (IntKind.i64.wrap (IntKind.i64.wrap (IntKind.i64.wrap (x4 + 1) + 1) + 1)))
                                        (setF (0 + x20.toNat) (2 + 0)
                                          (T.int IntKind.i64 (IntKind.i64.wrap (IntKind.i64.wrap (x4 + 1) + 1)))
                                          (setF (0 + x20.toNat) (0 + 1) (T.int IntKind.i64 (IntKind.i64.wrap (x4 + 1)))
                                            (setF (0 + x20.toNat) (0 + 0) (T.int IntKind.i64 x4) fx2)))))))))
                            (0 + x20.toNat) (9 + 0)).ln)
                      (setF (0 + x20.toNat) 8
                        (T.int IntKind.i64
                          (IntKind.i64.wrap (IntKind.i64.wrap (IntKind.i64.wrap (f_ctHdS r1 + 1) + 1) + 1)))
                        (setF (0 + x20.toNat) 7
                          (T.bool ((IntKind.i64.wrap (IntKind.i64.wrap (f_ctHdS r1 + 1) + 1)).tmod 3 == 0))
                          (setF (0 + x20.toNat) 6 (T.int IntKind.i64 (IntKind.i64.wrap (f_ctHdS r1 + 1)))
                            (setF (0 + x20.toNat) 5 (T.int IntKind.i64 (f_ctHdS r1))
                              (setF (0 + x20.toNat) (4 + 0)
                                (T.arr 2 (f_mkHdS r1).length (atL Hd.cs (f_mkHdS r1)))
                                (setF (0 + x20.toNat) (4 + 0)
                                  (T.lent 2
                                    (setF (0 + x20.toNat) (2 + 1)
                                        (T.int IntKind.i64
                                          (IntKind.i64.wrap (IntKind.i64.wrap (IntKind.i64.wrap (x4 + 1) + 1) + 1)))
                                        (setF (0 + x20.toNat) (2 + 0)
                                          (T.int IntKind.i64 (IntKind.i64.wrap (IntKind.i64.wrap (x4 + 1) + 1)))
                                          (setF (0 + x20.toNat) (0 + 1) (T.int IntKind.i64 (IntKind.i64.wrap (x4 + 1)))
                                            (setF (0 + x20.toNat) (0 + 0) (T.int IntKind.i64 x4) fx2)))
                                        (0 + x20.toNat) (4 + 0)).ln)
                                  (setF (0 + x20.toNat) (2 + 1)
                                    (T.int IntKind.i64
                                      (IntKind.i64.wrap (IntKind.i64.wrap (IntKind.i64.wrap (x4 + 1) + 1) + 1)))
                                    (setF (0 + x20.toNat) (2 + 0)
                                      (T.int IntKind.i64 (IntKind.i64.wrap (IntKind.i64.wrap (x4 + 1) + 1)))
                                      (setF (0 + x20.toNat) (0 + 1) (T.int IntKind.i64 (IntKind.i64.wrap (x4 + 1)))
                                        (setF (0 + x20.toNat) (0 + 0) (T.int IntKind.i64 x4) fx2))))))))))))).get
              [0 + x20.toNat, 10 + 0]).fn)]),
  (0, false, [C.tr false (T.int IntKind.i64 (f_ctSfS r2))])] fun (r3 : List Int × Int) =>
  gd ((setF (0 + x20.toNat) (9 + 0) (T.arr 1 (f_mkSfS r2).length (atL Sf.cs (f_mkSfS r2)))
          (setF (0 + x20.toNat) (9 + 0)
            (T.lent 1
              (setF (0 + x20.toNat) 8
                  (T.int IntKind.i64
                    (IntKind.i64.wrap (IntKind.i64.wrap (IntKind.i64.wrap (f_ctHdS r1 + 1) + 1) + 1)))
                  (setF (0 + x20.toNat) 7
                    (T.bool ((IntKind.i64.wrap (IntKind.i64.wrap (f_ctHdS r1 + 1) + 1)).tmod 3 == 0))
                    (setF (0 + x20.toNat) 6 (T.int IntKind.i64 (IntKind.i64.wrap (f_ctHdS r1 + 1)))
                      (setF (0 + x20.toNat) 5 (T.int IntKind.i64 (f_ctHdS r1))
                        (setF (0 + x20.toNat) (4 + 0)
                          (T.arr 2 (f_mkHdS r1).length (atL Hd.cs (f_mkHdS r1)))
                          (setF (0 + x20.toNat) (4 + 0)
                            (T.lent 2
                              (setF (0 + x20.toNat) (2 + 1)
                                  (T.int IntKind.i64
                                    (IntKind.i64.wrap (IntKind.i64.wrap (IntKind.i64.wrap (x4 + 1) + 1) + 1)))
                                  (setF (0 + x20.toNat) (2 + 0)
                                    (T.int IntKind.i64 (IntKind.i64.wrap (IntKind.i64.wrap (x4 + 1) + 1)))
                                    (setF (0 + x20.toNat) (0 + 1) (T.int IntKind.i64 (IntKind.i64.wrap (x4 + 1)))
                                      (setF (0 + x20.toNat) (0 + 0) (T.int IntKind.i64 x4) fx2)))
                                  (0 + x20.toNat) (4 + 0)).ln)
                            (setF (0 + x20.toNat) (2 + 1)
                              (T.int IntKind.i64
                                (IntKind.i64.wrap (IntKind.i64.wrap (IntKind.i64.wrap (x4 + 1) + 1) + 1)))
                              (setF (0 + x20.toNat) (2 + 0)
                                (T.int IntKind.i64 (IntKind.i64.wrap (IntKind.i64.wrap (x4 + 1) + 1)))
                                (setF (0 + x20.toNat) (0 + 1) (T.int IntKind.i64 (IntKind.i64.wrap (x4 + 1)))
                                  (setF (0 + x20.toNat) (0 + 0) (T.int IntKind.i64 x4) fx2)))))))))
                  (0 + x20.toNat) (9 + 0)).ln)
            (setF (0 + x20.toNat) 8
              (T.int IntKind.i64
                (IntKind.i64.wrap (IntKind.i64.wrap (IntKind.i64.wrap (f_ctHdS r1 + 1) + 1) + 1)))
              (setF (0 + x20.toNat) 7
                (T.bool ((IntKind.i64.wrap (IntKind.i64.wrap (f_ctHdS r1 + 1) + 1)).tmod 3 == 0))
                (setF (0 + x20.toNat) 6 (T.int IntKind.i64 (IntKind.i64.wrap (f_ctHdS r1 + 1)))
                  (setF (0 + x20.toNat) 5 (T.int IntKind.i64 (f_ctHdS r1))
                    (setF (0 + x20.toNat) (4 + 0) (T.arr 2 (f_mkHdS r1).length (atL Hd.cs (f_mkHdS r1)))
                      (setF (0 + x20.toNat) (4 + 0)
                        (T.lent 2
                          (setF (0 + x20.toNat) (2 + 1)
                              (T.int IntKind.i64
                                (IntKind.i64.wrap (IntKind.i64.wrap (IntKind.i64.wrap (x4 + 1) + 1) + 1)))
                              (setF (0 + x20.toNat) (2 + 0)
                                (T.int IntKind.i64 (IntKind.i64.wrap (IntKind.i64.wrap (x4 + 1) + 1)))
                                (setF (0 + x20.toNat) (0 + 1) (T.int IntKind.i64 (IntKind.i64.wrap (x4 + 1)))
                                  (setF (0 + x20.toNat) (0 + 0) (T.int IntKind.i64 x4) fx2)))
                              (0 + x20.toNat) (4 + 0)).ln)
                        (setF (0 + x20.toNat) (2 + 1)
                          (T.int IntKind.i64 (IntKind.i64.wrap (IntKind.i64.wrap (IntKind.i64.wrap (x4 + 1) + 1) + 1)))
                          (setF (0 + x20.toNat) (2 + 0)
                            (T.int IntKind.i64 (IntKind.i64.wrap (IntKind.i64.wrap (x4 + 1) + 1)))
                            (setF (0 + x20.toNat) (0 + 1) (T.int IntKind.i64 (IntKind.i64.wrap (x4 + 1)))
                              (setF (0 + x20.toNat) (0 + 0) (T.int IntKind.i64 x4) fx2)))))))))))
          (0 + x20.toNat) (10 + 0)).ln.beq
    (f_mkLI r3).length &&
  ((0 + x20.toNat).blt nx2 && true && true)) <|
  K .normal (st_mkRmS_1 l k (f_ctLI r3) (IntKind.i64.wrap (x20 + 1)) (nx2) (setF (0 + x20.toNat) (10 + 0) (T.arr 1 (f_mkLI r3).length (atL rowI (f_mkLI r3)))
  (setF (0 + x20.toNat) (10 + 0)
    (T.lent 1
      (setF (0 + x20.toNat) (9 + 0) (T.arr 1 (f_mkSfS r2).length (atL Sf.cs (f_mkSfS r2)))
          (setF (0 + x20.toNat) (9 + 0)
            (T.lent 1
              (setF (0 + x20.toNat) 8
                  (T.int IntKind.i64
                    (IntKind.i64.wrap (IntKind.i64.wrap (IntKind.i64.wrap (f_ctHdS r1 + 1) + 1) + 1)))
                  (setF (0 + x20.toNat) 7
                    (T.bool ((IntKind.i64.wrap (IntKind.i64.wrap (f_ctHdS r1 + 1) + 1)).tmod 3 == 0))
                    (setF (0 + x20.toNat) 6 (T.int IntKind.i64 (IntKind.i64.wrap (f_ctHdS r1 + 1)))
                      (setF (0 + x20.toNat) 5 (T.int IntKind.i64 (f_ctHdS r1))
                        (setF (0 + x20.toNat) (4 + 0)
                          (T.arr 2 (f_mkHdS r1).length (atL Hd.cs (f_mkHdS r1)))
                          (setF (0 + x20.toNat) (4 + 0)
                            (T.lent 2
                              (setF (0 + x20.toNat) (2 + 1)
                                  (T.int IntKind.i64
                                    (IntKind.i64.wrap (IntKind.i64.wrap (IntKind.i64.wrap (x4 + 1) + 1) + 1)))
                                  (setF (0 + x20.toNat) (2 + 0)
                                    (T.int IntKind.i64 (IntKind.i64.wrap (IntKind.i64.wrap (x4 + 1) + 1)))
                                    (setF (0 + x20.toNat) (0 + 1) (T.int IntKind.i64 (IntKind.i64.wrap (x4 + 1)))
                                      (setF (0 + x20.toNat) (0 + 0) (T.int IntKind.i64 x4) fx2)))
                                  (0 + x20.toNat) (4 + 0)).ln)
                            (setF (0 + x20.toNat) (2 + 1)
                              (T.int IntKind.i64
                                (IntKind.i64.wrap (IntKind.i64.wrap (IntKind.i64.wrap (x4 + 1) + 1) + 1)))
                              (setF (0 + x20.toNat) (2 + 0)
                                (T.int IntKind.i64 (IntKind.i64.wrap (IntKind.i64.wrap (x4 + 1) + 1)))
                                (setF (0 + x20.toNat) (0 + 1) (T.int IntKind.i64 (IntKind.i64.wrap (x4 + 1)))
                                  (setF (0 + x20.toNat) (0 + 0) (T.int IntKind.i64 x4) fx2)))))))))
                  (0 + x20.toNat) (9 + 0)).ln)
            (setF (0 + x20.toNat) 8
              (T.int IntKind.i64
                (IntKind.i64.wrap (IntKind.i64.wrap (IntKind.i64.wrap (f_ctHdS r1 + 1) + 1) + 1)))
              (setF (0 + x20.toNat) 7
                (T.bool ((IntKind.i64.wrap (IntKind.i64.wrap (f_ctHdS r1 + 1) + 1)).tmod 3 == 0))
                (setF (0 + x20.toNat) 6 (T.int IntKind.i64 (IntKind.i64.wrap (f_ctHdS r1 + 1)))
                  (setF (0 + x20.toNat) 5 (T.int IntKind.i64 (f_ctHdS r1))
                    (setF (0 + x20.toNat) (4 + 0) (T.arr 2 (f_mkHdS r1).length (atL Hd.cs (f_mkHdS r1)))
                      (setF (0 + x20.toNat) (4 + 0)
                        (T.lent 2
                          (setF (0 + x20.toNat) (2 + 1)
                              (T.int IntKind.i64
                                (IntKind.i64.wrap (IntKind.i64.wrap (IntKind.i64.wrap (x4 + 1) + 1) + 1)))
                              (setF (0 + x20.toNat) (2 + 0)
                                (T.int IntKind.i64 (IntKind.i64.wrap (IntKind.i64.wrap (x4 + 1) + 1)))
                                (setF (0 + x20.toNat) (0 + 1) (T.int IntKind.i64 (IntKind.i64.wrap (x4 + 1)))
                                  (setF (0 + x20.toNat) (0 + 0) (T.int IntKind.i64 x4) fx2)))
                              (0 + x20.toNat) (4 + 0)).ln)
                        (setF (0 + x20.toNat) (2 + 1)
                          (T.int IntKind.i64 (IntKind.i64.wrap (IntKind.i64.wrap (IntKind.i64.wrap (x4 + 1) + 1) + 1)))
                          (setF (0 + x20.toNat) (2 + 0)
                            (T.int IntKind.i64 (IntKind.i64.wrap (IntKind.i64.wrap (x4 + 1) + 1)))
                            (setF (0 + x20.toNat) (0 + 1) (T.int IntKind.i64 (IntKind.i64.wrap (x4 + 1)))
                              (setF (0 + x20.toNat) (0 + 0) (T.int IntKind.i64 x4) fx2)))))))))))
          (0 + x20.toNat) (10 + 0)).ln)
    (setF (0 + x20.toNat) (9 + 0) (T.arr 1 (f_mkSfS r2).length (atL Sf.cs (f_mkSfS r2)))
      (setF (0 + x20.toNat) (9 + 0)
        (T.lent 1
          (setF (0 + x20.toNat) 8
              (T.int IntKind.i64
                (IntKind.i64.wrap (IntKind.i64.wrap (IntKind.i64.wrap (f_ctHdS r1 + 1) + 1) + 1)))
              (setF (0 + x20.toNat) 7
                (T.bool ((IntKind.i64.wrap (IntKind.i64.wrap (f_ctHdS r1 + 1) + 1)).tmod 3 == 0))
                (setF (0 + x20.toNat) 6 (T.int IntKind.i64 (IntKind.i64.wrap (f_ctHdS r1 + 1)))
                  (setF (0 + x20.toNat) 5 (T.int IntKind.i64 (f_ctHdS r1))
                    (setF (0 + x20.toNat) (4 + 0) (T.arr 2 (f_mkHdS r1).length (atL Hd.cs (f_mkHdS r1)))
                      (setF (0 + x20.toNat) (4 + 0)
                        (T.lent 2
                          (setF (0 + x20.toNat) (2 + 1)
                              (T.int IntKind.i64
                                (IntKind.i64.wrap (IntKind.i64.wrap (IntKind.i64.wrap (x4 + 1) + 1) + 1)))
                              (setF (0 + x20.toNat) (2 + 0)
                                (T.int IntKind.i64 (IntKind.i64.wrap (IntKind.i64.wrap (x4 + 1) + 1)))
                                (setF (0 + x20.toNat) (0 + 1) (T.int IntKind.i64 (IntKind.i64.wrap (x4 + 1)))
                                  (setF (0 + x20.toNat) (0 + 0) (T.int IntKind.i64 x4) fx2)))
                              (0 + x20.toNat) (4 + 0)).ln)
                        (setF (0 + x20.toNat) (2 + 1)
                          (T.int IntKind.i64 (IntKind.i64.wrap (IntKind.i64.wrap (IntKind.i64.wrap (x4 + 1) + 1) + 1)))
                          (setF (0 + x20.toNat) (2 + 0)
                            (T.int IntKind.i64 (IntKind.i64.wrap (IntKind.i64.wrap (x4 + 1) + 1)))
                            (setF (0 + x20.toNat) (0 + 1) (T.int IntKind.i64 (IntKind.i64.wrap (x4 + 1)))
                              (setF (0 + x20.toNat) (0 + 0) (T.int IntKind.i64 x4) fx2)))))))))
              (0 + x20.toNat) (9 + 0)).ln)
        (setF (0 + x20.toNat) 8
          (T.int IntKind.i64 (IntKind.i64.wrap (IntKind.i64.wrap (IntKind.i64.wrap (f_ctHdS r1 + 1) + 1) + 1)))
          (setF (0 + x20.toNat) 7
            (T.bool ((IntKind.i64.wrap (IntKind.i64.wrap (f_ctHdS r1 + 1) + 1)).tmod 3 == 0))
            (setF (0 + x20.toNat) 6 (T.int IntKind.i64 (IntKind.i64.wrap (f_ctHdS r1 + 1)))
              (setF (0 + x20.toNat) 5 (T.int IntKind.i64 (f_ctHdS r1))
                (setF (0 + x20.toNat) (4 + 0) (T.arr 2 (f_mkHdS r1).length (atL Hd.cs (f_mkHdS r1)))
                  (setF (0 + x20.toNat) (4 + 0)
                    (T.lent 2
                      (setF (0 + x20.toNat) (2 + 1)
                          (T.int IntKind.i64 (IntKind.i64.wrap (IntKind.i64.wrap (IntKind.i64.wrap (x4 + 1) + 1) + 1)))
                          (setF (0 + x20.toNat) (2 + 0)
                            (T.int IntKind.i64 (IntKind.i64.wrap (IntKind.i64.wrap (x4 + 1) + 1)))
                            (setF (0 + x20.toNat) (0 + 1) (T.int IntKind.i64 (IntKind.i64.wrap (x4 + 1)))
                              (setF (0 + x20.toNat) (0 + 0) (T.int IntKind.i64 x4) fx2)))
                          (0 + x20.toNat) (4 + 0)).ln)
                    (setF (0 + x20.toNat) (2 + 1)
                      (T.int IntKind.i64 (IntKind.i64.wrap (IntKind.i64.wrap (IntKind.i64.wrap (x4 + 1) + 1) + 1)))
                      (setF (0 + x20.toNat) (2 + 0)
                        (T.int IntKind.i64 (IntKind.i64.wrap (IntKind.i64.wrap (x4 + 1) + 1)))
                        (setF (0 + x20.toNat) (0 + 1) (T.int IntKind.i64 (IntKind.i64.wrap (x4 + 1)))
                          (setF (0 + x20.toNat) (0 + 0) (T.int IntKind.i64 x4) fx2)))))))))))))))
 else
 K (.exit 0) (ex_mkRmS_1_1 l k x4 x20 nx2 fx2)) := by kernel_rfl
theorem post_mkRmS_1_1 (l : List Rm) (k : Int) (x4 : Int) (x20 : Int) (nx2 : Nat) (fx2 : Nat → Nat → T) (n : Nat) : contAt prog (tabS [(i_mkHdS, e_mkHdS), (i_mkSfS, e_mkSfS), (i_mkLI, e_mkLI)]) kp_mkRmS F_mkRmS ts_mkRmS [1, 0, 1, 0] [] n (.exit 0) (ex_mkRmS_1_1 l k x4 x20 nx2 fx2) = (
 some ([(false, [.tr true (T.int IntKind.i64 x4)])], [(false, [.tr true (.arr (11) (nx2) (fx2))]), (false, [])])) := by kernel_rfl
theorem pre_mkRmS (l : List Rm) (k : Int) (n : Nat) : body prog (tabS [(i_mkHdS, e_mkHdS), (i_mkSfS, e_mkSfS), (i_mkLI, e_mkLI)]) kp_mkRmS n F_mkRmS [lT (eL 11 Rm.cs l), aI k] = (
 loopAt prog (tabS [(i_mkHdS, e_mkHdS), (i_mkSfS, e_mkSfS), (i_mkLI, e_mkLI)]) kp_mkRmS F_mkRmS [1, 0, 1, 0] n n (st_mkRmS_1 l k (k) (0) (T.ln (eL 11 Rm.cs l)) (T.fn (eL 11 Rm.cs l))) (contAt prog (tabS [(i_mkHdS, e_mkHdS), (i_mkSfS, e_mkSfS), (i_mkLI, e_mkLI)]) kp_mkRmS F_mkRmS ts_mkRmS [1, 0, 1, 0] [] n)) := by kernel_rfl
theorem body_mkRmS (l : List Rm) (k : Int) (h : okh_RmS (l, k)) : body prog (tabS [(i_mkHdS, e_mkHdS), (i_mkSfS, e_mkSfS), (i_mkLI, e_mkLI)]) kp_mkRmS (l.length + 1) F_mkRmS (eam_RmS (l, k)) = some ([oT (.int .i64 (f_ctRmS (l, k)))], [oT (eL 11 Rm.cs (f_mkRmS (l, k))), nul]) := by
  obtain ⟨hl, hk0, hk1⟩ := h
  have hbm := bm
  dsimp only at hl hk0 hk1
  have hl' : l.length ≤ BM := hl.1
  unfold eam_RmS f_ctRmS f_mkRmS
  dsimp only
  rw [pre_mkRmS]
  have hst : st_mkRmS_1 l k k 0 l.length (atL Rm.cs l) = (fun i : Nat => st_mkRmS_1 l k (k + cntL c1_RmS (l.take i)) (i : Nat) l.length (atL Rm.cs (mkd m1_RmS c1_RmS l k i))) 0 := by simp [cntL, mkd_zero]
  refine Eq.trans (congrArg (fun s => loopAt prog _ _ _ _ _ _ s _) hst) ?_
  rw [forLoop l.length (fun i : Nat => st_mkRmS_1 l k (k + cntL c1_RmS (l.take i)) (i : Nat) l.length (atL Rm.cs (mkd m1_RmS c1_RmS l k i))) (ex_mkRmS_1_1 l k (k + cntL c1_RmS l) l.length l.length (atL Rm.cs (mk_RmS l k))) 0 (fun i K hi => ?_) (fun K => ?_) _ (Nat.le_refl _)]
  · rw [post_mkRmS_1_1]
    have := markL_len m1_RmS c1_RmS l k
    rw [eL_T, show (mk_RmS l k).length = l.length from this]
    rfl
  · have hx := List.getElem?_eq_getElem hi
    obtain ⟨x, hxe⟩ : ∃ x, x = l[i] := ⟨_, rfl⟩
    rw [← hxe] at hx
    have hxm : x ∈ l := List.mem_of_getElem? hx
    have hg := mkd_get m1_RmS c1_RmS l k hx
    have hc := cntL_take c1_RmS l hx
    have hcl := cntL_le c1_RmS l (i + 1)
    have hcx : c1_RmS x = 1 + 1 + 1 + 1 + cntL c1_HdS x.kids + 1 + 1 + 1 + 1 + cntL c1_SfS x.things + cntL c1_LI x.tags := rfl
    have h0 := (hl.2 _ hxm).1
    have h1 := (hl.2 _ hxm).2.1
    have h2 := (hl.2 _ hxm).2.2
    rw [hc, round_mkRmS_1]
    have hms := mkd_set m1_RmS c1_RmS l k hx
    have hml : i < (mkd m1_RmS c1_RmS l k i).length := by rw [mkd_len _ _ _ _ (by omega)]; exact hi
    obtain ⟨k0, hk⟩ : ∃ k0, k0 = k + (cntL c1_RmS (l.take i) : Int) := ⟨_, rfl⟩
    have hk2 : k + ((cntL c1_RmS (l.take i) + c1_RmS x : Nat) : Int) = k0 + 1 + 1 + 1 + 1 + cntL c1_HdS x.kids + 1 + 1 + 1 + 1 + cntL c1_SfS x.things + cntL c1_LI x.tags := by omega
    rw [hk2]
    rw [← hk] at hms ⊢
    have g0 : okh_HdS (x.kids, k0 + 1 + 1 + 1 + 1) := ⟨h0, by dsimp only; omega, by dsimp only; omega⟩
    have g1 : okh_SfS (x.things, k0 + 1 + 1 + 1 + 1 + cntL c1_HdS x.kids + 1 + 1 + 1 + 1) := ⟨h1, by dsimp only; omega, by dsimp only; omega⟩
    have g2 : okh_LI (x.tags, k0 + 1 + 1 + 1 + 1 + cntL c1_HdS x.kids + 1 + 1 + 1 + 1 + cntL c1_SfS x.things) := ⟨h2, by dsimp only; omega, by dsimp only; omega⟩
    simp (disch := omega) only [lt_d, ge0_d, Int.toNat_natCast, blt_d, ble_self, beq_self, decide_true, cond_true, Bool.and_self, Bool.and_true, Bool.true_and, gd_true, Nat.zero_add, List.getD_cons_zero, List.getD_cons_succ, isI_int, toI_int, isB_bool, toB_bool, eL_T, arr_ln, arr_fn, arr_wd, arr_is, arr_get, hi, atL_of hg, Rm.cs, wrapI, wrapS, setF_d, and_self, if_true, if_false, true_and, false_and, and_true, and_false, Nat.add_zero, Nat.reduceEqDiff, Nat.reduceAdd, entK_of (dm_mkHdS g0) (iv_mkHdS g0), len_mkHdS, d_mkHdS, d_ctHdS, entK_of (dm_mkSfS g1) (iv_mkSfS g1), len_mkSfS, d_mkSfS, d_ctSfS, entK_of (dm_mkLI g2) (iv_mkLI g2), len_mkLI, d_mkLI, d_ctLI]
    rw [← hms]
    congr 2
    refine set_atL hml fun j' k' => ?_
    by_cases e : j' = i
    · subst e
      rcases k' with _ | _ | _ | _ | _ | _ | _ | _ | _ | _ | _ | k' <;> simp [int_eqM, setF_d, Rm.cs, m1_RmS, atL_of hg, eL_T, len_mkHdS, len_mkSfS, len_mkLI]
    · simp [setF_d, e]
  · rw [round_mkRmS_1, mkd_all]
    simp only [lt_d, Nat.lt_irrefl, decide_false, cond_false, List.take_length]
    rfl
theorem s_mkRmS : EntOk prog i_mkRmS e_mkRmS := ent_ok eam_RmS_inj fun x hx =>
  body_sound (φ := (tabS [(i_mkHdS, e_mkHdS), (i_mkSfS, e_mkSfS), (i_mkLI, e_mkLI)])) (tabS_cons s_mkHdS (tabS_cons s_mkSfS (tabS_cons s_mkLI tabS_nil))) mixed (kp := kp_mkRmS) (n := x.1.length + 1) func80 (c := bodyOf F_mkRmS) (by kernel_rfl) (body_mkRmS x.1 x.2 hx) (name_ok (by kernel_rfl))
theorem dm_hdRmS {l : List Rm} {k : Int} (h : okh_RmS (l, k)) : dom okh_RmS eah_RmS [(0, false, [C.tr false (T.arr 11 l.length (atL Rm.cs l))]), (0, false, [C.tr false (T.int IntKind.i64 k)])] = true := dom_ea (ea := eah_RmS) (x := (l, k)) h
theorem iv_hdRmS {l : List Rm} {k : Int} (h : okh_RmS (l, k)) : inv okh_RmS eah_RmS [(0, false, [C.tr false (T.arr 11 l.length (atL Rm.cs l))]), (0, false, [C.tr false (T.int IntKind.i64 k)])] = (l, k) := inv_ea eah_RmS_inj (x := (l, k)) h
theorem y_hdRmS {l : List Rm} {k : Int} (h : l = mk_RmS l k) : f_hdRmS (l, k) = k + cntL c1_RmS l := if_pos h
theorem n_hdRmS {l : List Rm} {k : Int} (h : ¬ l = mk_RmS l k) : f_hdRmS (l, k) = -1 := if_neg h
theorem dm_mkRmS {l : List Rm} {k : Int} (h : okh_RmS (l, k)) : dom okh_RmS eam_RmS [(1, false, [C.tr true (T.arr 11 l.length (atL Rm.cs l))]), (0, false, [C.tr false (T.int IntKind.i64 k)])] = true := dom_ea (ea := eam_RmS) (x := (l, k)) h
theorem iv_mkRmS {l : List Rm} {k : Int} (h : okh_RmS (l, k)) : inv okh_RmS eam_RmS [(1, false, [C.tr true (T.arr 11 l.length (atL Rm.cs l))]), (0, false, [C.tr false (T.int IntKind.i64 k)])] = (l, k) := inv_ea eam_RmS_inj (x := (l, k)) h
theorem len_mkRmS (l : List Rm) (k : Int) : (mk_RmS l k).length = l.length := markL_len _ _ _ _
theorem d_mkRmS (l : List Rm) (k : Int) : f_mkRmS (l, k) = mk_RmS l k := rfl
theorem d_ctRmS (l : List Rm) (k : Int) : f_ctRmS (l, k) = k + cntL c1_RmS l := rfl
end Go.Mach.F
namespace Go.Mach.F
open Go Go.Mach Go.Proofs.Try
theorem cb_RmS (l : List Rm) : cntL c1_RmS l ≤ 16 * n_RmS l := by
  have := cntL_lin c1_RmS n1_RmS 8 16 l fun x _ => by have := cb_HdS x.kids; have := cb_SfS x.things; have := cb_LI x.tags; show c1_RmS x ≤ _; unfold c1_RmS n1_RmS; omega
  unfold n_RmS
  omega
theorem beq_mkRmS (l : List Rm) (k : Int) : Nat.beq l.length (mk_RmS l k).length = true := by rw [len_mkRmS]; simp only [beq_self]
theorem ct1_RmS (x : Rm) (k : Int) : c1_RmS (m1_RmS x k) = c1_RmS x := by simp only [c1_RmS, m1_RmS, mkmk_HdS, ctmk_HdS, mkmk_SfS, ctmk_SfS, mkmk_LI, ctmk_LI]
theorem mm1_RmS (x : Rm) (k : Int) : m1_RmS (m1_RmS x k) k = m1_RmS x k := by simp only [m1_RmS, mkmk_HdS, ctmk_HdS, mkmk_SfS, ctmk_SfS, mkmk_LI, ctmk_LI]
theorem mkmk_RmS (l : List Rm) (k : Int) : mk_RmS (mk_RmS l k) k = mk_RmS l k := markL_idem m1_RmS c1_RmS (fun x k => mm1_RmS x k) (fun x k => ct1_RmS x k) l k
theorem ctmk_RmS (l : List Rm) (k : Int) : cntL c1_RmS (mk_RmS l k) = cntL c1_RmS l := cntL_mark m1_RmS c1_RmS (fun x k => ct1_RmS x k) l k
theorem okqmk_RmS {l : List Rm} {k : Int} (h : okq_RmS l) : okq_RmS (mk_RmS l k) := ⟨by rw [len_mkRmS]; exact h.1, fun x hx => by
    obtain ⟨i, hi, e⟩ := List.getElem_of_mem hx
    have hi' : i < l.length := by rw [len_mkRmS] at hi; exact hi
    have hg := markL_get m1_RmS c1_RmS l k (List.getElem?_eq_getElem hi')
    have he : (mk_RmS l k)[i]? = some x := by rw [List.getElem?_eq_getElem hi, e]
    rw [show (mk_RmS l k)[i]? = (markL m1_RmS c1_RmS l k)[i]? from rfl, hg] at he
    obtain rfl := Option.some.inj he
    have hy : l[i] ∈ l := List.getElem_mem hi'
    exact ⟨okqmk_HdS ((h.2 _ hy).1), okqmk_SfS ((h.2 _ hy).2.1), okqmk_LI ((h.2 _ hy).2.2)⟩⟩
end Go.Mach.F
namespace Go.Mach.F
open Go Go.Mach Go.Proofs.Try
--=set_option maxRecDepth 100000
def ok_ToMl (x : Ml) : Prop := ok_RmS x.rooms ∧ ok_LI x.log
def ea_ToMl (x : Ml) : List Arg := [aR x.cs]
def f_ToMl (x : Ml) : Ml := x
noncomputable def e_ToMl : Ent := ent [] ok_ToMl ea_ToMl (fun l => erR 1 l.cs) f_ToMl
theorem ea_ToMl_inj (x y : Ml) (h : ea_ToMl x = ea_ToMl y) : x = y := by
  simp only [ea_ToMl, List.cons.injEq, and_true, true_and] at h
  exact Ml.cs_ext (aR_inj h)
theorem dm_ToMl {l : Ml} (h : ok_ToMl l) : dom ok_ToMl ea_ToMl [(0, true, [C.tr false (T.int IntKind.i64 l.c.chunks), C.tr false (T.int IntKind.i64 l.c.size), C.tr false (T.int IntKind.i64 l.c.slots), C.tr false (T.int IntKind.i64 l.c.tax), C.tr false (T.int IntKind.i64 l.c.slice), C.tr false (T.int IntKind.i64 l.c.gens), C.tr false (T.arr 11 l.rooms.length (atL Rm.cs l.rooms)), C.tr false (T.arr 1 l.log.length (atL rowI l.log))])] = true := dom_ea (ea := ea_ToMl) (x := l) h
theorem iv_ToMl {l : Ml} (h : ok_ToMl l) : inv ok_ToMl ea_ToMl [(0, true, [C.tr false (T.int IntKind.i64 l.c.chunks), C.tr false (T.int IntKind.i64 l.c.size), C.tr false (T.int IntKind.i64 l.c.slots), C.tr false (T.int IntKind.i64 l.c.tax), C.tr false (T.int IntKind.i64 l.c.slice), C.tr false (T.int IntKind.i64 l.c.gens), C.tr false (T.arr 11 l.rooms.length (atL Rm.cs l.rooms)), C.tr false (T.arr 1 l.log.length (atL rowI l.log))])] = l := inv_ea ea_ToMl_inj (x := l) h
theorem d_ToMl (l : Ml) : f_ToMl l = l := rfl
def i_ToMl : Nat := 22
noncomputable abbrev F_ToMl : Func := f22
def kp_ToMl : List (Nat × List Nat) := [(0, [4, 5, 8, 9, 12, 13, 64]), (1, [4, 5, 8, 9, 12, 13, 64]), (2, [4, 5, 8, 9, 12, 13, 64]), (3, [4, 5, 8, 9, 12, 13, 64]), (4, [8, 9, 12, 13, 64]), (5, [8, 9, 12, 13, 64])]
theorem pre_ToMl (l : Ml) (n : Nat) : body prog (tabS [(i_toCf, e_toCf), (i_toRmS, e_toRmS), (i_toLI, e_toLI)]) kp_ToMl n F_ToMl [aR l.cs] = (
 gd (dom ok_RmS ea_RmS [(0, false, [C.tr false (eL 11 Rm.cs l.2)])]) <|
 gd ((inv ok_RmS ea_RmS [(0, false, [C.tr false (eL 11 Rm.cs l.2)])]).length.ble
    (inv ok_RmS ea_RmS [(0, false, [C.tr false (eL 11 Rm.cs l.2)])]).length &&
  true) <|
 gd (dom ok_LI ea_LI [(0, false, [C.tr false (eL 1 rowI l.3)])]) <|
 gd ((inv ok_LI ea_LI [(0, false, [C.tr false (eL 1 rowI l.3)])]).length.ble
    (inv ok_LI ea_LI [(0, false, [C.tr false (eL 1 rowI l.3)])]).length &&
  true) <|
 gd ((inv ok_RmS ea_RmS [(0, false, [C.tr false (eL 11 Rm.cs l.2)])]).length.ble
    (inv ok_RmS ea_RmS [(0, false, [C.tr false (eL 11 Rm.cs l.2)])]).length &&
  true) <|
 gd ((inv ok_LI ea_LI [(0, false, [C.tr false (eL 1 rowI l.3)])]).length.ble
    (inv ok_LI ea_LI [(0, false, [C.tr false (eL 1 rowI l.3)])]).length &&
  true) <|
 gd ((inv ok_RmS ea_RmS [(0, false, [C.tr false (eL 11 Rm.cs l.2)])]).length.ble
    (inv ok_RmS ea_RmS [(0, false, [C.tr false (eL 11 Rm.cs l.2)])]).length &&
  true) <|
 gd ((inv ok_LI ea_LI [(0, false, [C.tr false (eL 1 rowI l.3)])]).length.ble
    (inv ok_LI ea_LI [(0, false, [C.tr false (eL 1 rowI l.3)])]).length &&
  true) <|
 some ([(true, [.tr true (T.int IntKind.i64 l.c.1), .tr true (T.int IntKind.i64 l.c.2), .tr true (T.int IntKind.i64 l.c.3), .tr true (T.int IntKind.i64 l.c.4), .tr true (T.int IntKind.i64 l.c.5), .tr true (T.int IntKind.i64 l.c.6), .tr true (.arr (11) ((inv ok_RmS ea_RmS [(0, false, [C.tr false (eL 11 Rm.cs l.2)])]).length) ((eL 11 Rm.cs (inv ok_RmS ea_RmS [(0, false, [C.tr false (eL 11 Rm.cs l.2)])])).fn)), .tr true (.arr (1) ((inv ok_LI ea_LI [(0, false, [C.tr false (eL 1 rowI l.3)])]).length) (atL rowI (inv ok_LI ea_LI [(0, false, [C.tr false (eL 1 rowI l.3)])])))])], [(false, [])])) := by kernel_rfl
theorem body_ToMl (l : Ml) (n : Nat) (h : ok_ToMl l) : body prog (tabS [(i_toCf, e_toCf), (i_toRmS, e_toRmS), (i_toLI, e_toLI)]) kp_ToMl n F_ToMl (ea_ToMl l) = some (erR 1 l.cs) := by
  have h0 : ok_RmS l.rooms := h.1
  have h1 : ok_LI l.log := h.2
  unfold ea_ToMl
  rw [pre_ToMl]
  simp only [lt_d, ge0_d, Int.toNat_natCast, blt_d, ble_self, beq_self, decide_true, cond_true, Bool.and_self, Bool.and_true, Bool.true_and, gd_true, Nat.zero_add, List.getD_cons_zero, List.getD_cons_succ, isI_int, toI_int, isB_bool, toB_bool, eL_T, arr_ln, arr_fn, arr_wd, arr_is, arr_get, Ml.cs, dm_toRmS h0, iv_toRmS h0, dm_toLI h1, iv_toLI h1, cut_all]
  rfl
theorem s_ToMl : EntOk prog i_ToMl e_ToMl := ent_ok ea_ToMl_inj fun x hx =>
  body_sound (φ := (tabS [(i_toCf, e_toCf), (i_toRmS, e_toRmS), (i_toLI, e_toLI)])) (tabS_cons s_toCf (tabS_cons s_toRmS (tabS_cons s_toLI tabS_nil))) mixed (kp := kp_ToMl) (n := 0) func22 (c := bodyOf F_ToMl) (by kernel_rfl) (body_ToMl x 0 hx) (name_ok (by kernel_rfl))
def okq_Ml (l : Ml) : Prop := okq_RmS l.rooms ∧ okq_LI l.log
def n_Ml (l : Ml) : Nat := n_RmS l.rooms + n_LI l.log
def ok_SzMl (x : Ml × Int) : Prop := z_Ml x.1 ∧ 0 ≤ x.2 ∧ x.2 ≤ LM
def ea_SzMl (x : Ml × Int) : List Arg := [aR x.1.cs, aI x.2]
def f_SzMl (x : Ml × Int) : Int := if (n_Ml x.1 : Int) ≤ x.2 then x.2 - n_Ml x.1 else -1
noncomputable def e_SzMl : Ent := ent [] ok_SzMl ea_SzMl (erI 2) f_SzMl
theorem ea_SzMl_inj (x y : Ml × Int) (h : ea_SzMl x = ea_SzMl y) : x = y := by
  obtain ⟨l1, k1⟩ := x
  obtain ⟨l2, k2⟩ := y
  simp only [ea_SzMl, List.cons.injEq, and_true, true_and] at h
  obtain ⟨e0, e1⟩ := h
  obtain rfl := Ml.cs_ext (aR_inj e0)
  obtain rfl := aI_inj e1
  rfl
theorem dm_SzMl {l : Ml} {k : Int} (h : ok_SzMl (l, k)) : dom ok_SzMl ea_SzMl [(0, true, [C.tr false (T.int IntKind.i64 l.c.chunks), C.tr false (T.int IntKind.i64 l.c.size), C.tr false (T.int IntKind.i64 l.c.slots), C.tr false (T.int IntKind.i64 l.c.tax), C.tr false (T.int IntKind.i64 l.c.slice), C.tr false (T.int IntKind.i64 l.c.gens), C.tr false (T.arr 11 l.rooms.length (atL Rm.cs l.rooms)), C.tr false (T.arr 1 l.log.length (atL rowI l.log))]), (0, false, [C.tr false (T.int IntKind.i64 k)])] = true := dom_ea (ea := ea_SzMl) (x := (l, k)) h
theorem iv_SzMl {l : Ml} {k : Int} (h : ok_SzMl (l, k)) : inv ok_SzMl ea_SzMl [(0, true, [C.tr false (T.int IntKind.i64 l.c.chunks), C.tr false (T.int IntKind.i64 l.c.size), C.tr false (T.int IntKind.i64 l.c.slots), C.tr false (T.int IntKind.i64 l.c.tax), C.tr false (T.int IntKind.i64 l.c.slice), C.tr false (T.int IntKind.i64 l.c.gens), C.tr false (T.arr 11 l.rooms.length (atL Rm.cs l.rooms)), C.tr false (T.arr 1 l.log.length (atL rowI l.log))]), (0, false, [C.tr false (T.int IntKind.i64 k)])] = (l, k) := inv_ea ea_SzMl_inj (x := (l, k)) h
def i_SzMl : Nat := 20
noncomputable abbrev F_SzMl : Func := f20
def kp_SzMl : List (Nat × List Nat) := [(0, [4, 8, 9]), (1, [4, 8, 9]), (2, [4, 8, 9, 40]), (3, [16]), (4, [4]), (5, [4, 64]), (6, [16]), (7, [16])]
theorem pre_SzMl (l : Ml) (k : Int) (n : Nat) : body prog (tabS [(i_szRmS, e_szRmS), (i_szLI, e_szLI)]) kp_SzMl n F_SzMl [aR l.cs, aI k] = (
 gd (dom okzz_RmS eaz_RmS [(0, false, [C.tr false (eL 11 Rm.cs l.2)]), (0, false, [C.tr false (T.int IntKind.i64 k)])]) <|
 bif decide
  (f_szRmS
      (inv okzz_RmS eaz_RmS
        [(0, false, [C.tr false (eL 11 Rm.cs l.2)]), (0, false, [C.tr false (T.int IntKind.i64 k)])]) <
    0) then
  some ([(false, [.tr true (T.int IntKind.i64 (-1))])], [(false, []), (false, [])])
 else
 bif decide
  (IntKind.i64.wrap
      (f_szRmS
          (inv okzz_RmS eaz_RmS
            [(0, false, [C.tr false (eL 11 Rm.cs l.2)]), (0, false, [C.tr false (T.int IntKind.i64 k)])]) -
        (↑l.3.length : Int)) <
    0) then
  some ([(false, [.tr true (T.int IntKind.i64 (-1))])], [(false, []), (false, [])])
 else
 bif decide
  (IntKind.i64.wrap
      (f_szRmS
          (inv okzz_RmS eaz_RmS
            [(0, false, [C.tr false (eL 11 Rm.cs l.2)]), (0, false, [C.tr false (T.int IntKind.i64 k)])]) -
        (↑l.3.length : Int)) <
    0) then
  some ([(false, [.tr true (T.int IntKind.i64 (-1))])], [(false, []), (false, [])])
 else
 some ([(false, [.tr true (T.int IntKind.i64
  (IntKind.i64.wrap
    (f_szRmS
        (inv okzz_RmS eaz_RmS
          [(0, false, [C.tr false (eL 11 Rm.cs l.2)]), (0, false, [C.tr false (T.int IntKind.i64 k)])]) -
      (↑l.3.length : Int))))])], [(false, []), (false, [])])) := by kernel_rfl
theorem body_SzMl (l : Ml) (k : Int) (n : Nat) (h : ok_SzMl (l, k)) : body prog (tabS [(i_szRmS, e_szRmS), (i_szLI, e_szLI)]) kp_SzMl n F_SzMl (ea_SzMl (l, k)) = some (erI 2 (f_SzMl (l, k))) := by
  have hzm := zm
  have hlm := lm
  obtain ⟨hz, hk0, hk1⟩ := h
  dsimp only at hz hk0 hk1
  have z0 : okz_RmS l.rooms := hz.1
  have z1 : okz_LI l.log := hz.2
  have hn : n_Ml l = n_RmS l.rooms + l.log.length := rfl
  unfold ea_SzMl f_SzMl
  dsimp only
  rw [pre_SzMl]
  have y0 : okzz_RmS (l.rooms, k) := ⟨z0, by dsimp only; omega, by dsimp only; omega⟩
  simp only [lt_d, ge0_d, Int.toNat_natCast, blt_d, ble_self, beq_self, decide_true, cond_true, Bool.and_self, Bool.and_true, Bool.true_and, gd_true, Nat.zero_add, List.getD_cons_zero, List.getD_cons_succ, isI_int, toI_int, isB_bool, toB_bool, eL_T, arr_ln, arr_fn, arr_wd, arr_is, arr_get, Ml.cs, dm_szRmS y0, iv_szRmS y0]
  by_cases e0 : (n_RmS l.rooms : Int) ≤ k
  case neg =>
    simp only [n_szRmS e0]
    rw [if_neg (by omega)]
    simp only [decide_eq_true (show (-1 : Int) < 0 by omega), cond_true]
    rfl
  simp only [y_szRmS e0]
  simp (disch := omega) only [decide_eq_false (show ¬ k - (n_RmS l.rooms : Int) < 0 by omega), cond_false, wrapI]
  have y1 : l.log.length ≤ ZM := z1
  try simp (disch := omega) only [wrapI]
  by_cases e1 : k - (n_RmS l.rooms : Int) - (l.log.length : Int) < 0
  · rw [if_neg (by omega)]
    simp only [decide_eq_true e1, cond_true]
    rfl
  simp (disch := omega) only [decide_eq_false e1, cond_false, wrapI]
  rw [if_pos (by omega), show k - (n_Ml l : Int) = k - (n_RmS l.rooms : Int) - (l.log.length : Int) by omega]
  rfl
theorem s_SzMl : EntOk prog i_SzMl e_SzMl := ent_ok ea_SzMl_inj fun x hx =>
  body_sound (φ := (tabS [(i_szRmS, e_szRmS), (i_szLI, e_szLI)])) (tabS_cons s_szRmS (tabS_cons s_szLI tabS_nil)) mixed (kp := kp_SzMl) (n := 0) func20 (c := bodyOf F_SzMl) (by kernel_rfl) (body_SzMl x.1 x.2 (0) hx) (name_ok (by kernel_rfl))
theorem y_SzMl {l : Ml} {k : Int} (h : (n_Ml l : Int) ≤ k) : f_SzMl (l, k) = k - n_Ml l := if_pos h
theorem n_SzMl {l : Ml} {k : Int} (h : ¬ (n_Ml l : Int) ≤ k) : f_SzMl (l, k) = -1 := if_neg h
theorem okn_Ml {l : Ml} (h : (n_Ml l : Int) ≤ 1048576) : ok_ToMl l ∧ okq_Ml l := ⟨⟨(okn_RmS (l := l.rooms) (by have : n_Ml l = n_RmS l.rooms + n_LI l.log := rfl; omega)).1, (okn_LI (l := l.log) (by have : n_Ml l = n_RmS l.rooms + n_LI l.log := rfl; omega)).1⟩, ⟨(okn_RmS (l := l.rooms) (by have : n_Ml l = n_RmS l.rooms + n_LI l.log := rfl; omega)).2, (okn_LI (l := l.log) (by have : n_Ml l = n_RmS l.rooms + n_LI l.log := rfl; omega)).2⟩⟩
end Go.Mach.F
namespace Go.Mach.F
open Go Go.Mach Go.Proofs.Try
--=set_option maxRecDepth 100000
def i_mkMl : Nat := 27
noncomputable abbrev F_mkMl : Func := f27
def kp_mkMl : List (Nat × List Nat) := [(0, [4, 8, 9, 2]), (1, [4, 8, 9, 2]), (2, [4, 2]), (3, [16, 2])]
noncomputable def e_mkMl : Ent := inl [1, 0] prog (tabS [(i_mkRmS, e_mkRmS), (i_mkLI, e_mkLI)]) kp_mkMl 0 F_mkMl
theorem s_mkMl : EntOk prog i_mkMl e_mkMl := inl_ok (tabS_cons s_mkRmS (tabS_cons s_mkLI tabS_nil)) mixed (c := bodyOf F_mkMl) func27 (by kernel_rfl) (name_ok (by kernel_rfl))
end Go.Mach.F
namespace Go.Mach.F
open Go Go.Mach Go.Proofs.Try
theorem cntL_set {α : Type} (c : α → Nat) : ∀ {l : List α} {j : Nat} {x y : α}, l[j]? = some x → cntL c (l.set j y) + c x = cntL c l + c y
  | [], _, _, _, h => by simp at h
  | z :: l, 0, x, y, h => by
    simp at h
    subst h
    simp only [List.set_cons_zero, cntL]
    omega
  | z :: l, j + 1, x, y, h => by
    have := cntL_set c (l := l) (j := j) (x := x) (y := y) (by simpa using h)
    simp only [List.set_cons_succ, cntL]
    omega
theorem rooms_set {l : List Rm} {j : Nat} {x y : Rm} (hq : okq_RmS l) (hx : l[j]? = some x) (hy : okq_HdS y.kids ∧ okq_SfS y.things ∧ okq_LI y.tags) (d : Nat) (hn : n1_RmS y ≤ n1_RmS x + d) : okq_RmS (l.set j y) ∧ n_RmS (l.set j y) ≤ n_RmS l + d := by
  refine ⟨⟨by rw [List.length_set]; exact hq.1, fun z hz => ?_⟩, ?_⟩
  · rcases List.mem_or_eq_of_mem_set hz with h | rfl
    · exact hq.2 _ h
    · exact hy
  · have := cntL_set n1_RmS (y := y) hx
    unfold n_RmS
    rw [List.length_set]
    omega
end Go.Mach.F
namespace Go.Mach.F
open Go Go.Mach Go.Proofs.Try
theorem cntL_setle {α : Type} (c : α → Nat) {l : List α} {j : Nat} {x y : α} (h : l[j]? = some x) (e : c y = c x) : cntL c (l.set j y) = cntL c l := by
  have := cntL_set c (y := y) h
  omega
theorem wrtM_ok {m : Ml} {r : Rf} {k : Int} {s : List UInt8} (hq : okq_RmS m.rooms) (hl : okq_LI m.log) : (okq_RmS (wrtM m r k s).1.rooms ∧ okq_LI (wrtM m r k s).1.log) ∧ n_RmS (wrtM m r k s).1.rooms ≤ n_RmS m.rooms ∧ (wrtM m r k s).1.log = m.log := by
  have hbm := bm
  unfold wrtM
  by_cases e : (thg m r).2 = 0
  · have hk := thg_ok e
    have hx := getD_get hk.1.2
    have ht := things_get hk.2.2
    obtain ⟨x, hxe⟩ : ∃ x, x = m.rooms.getD (thg m r).1.toNat zRm := ⟨_, rfl⟩
    obtain ⟨u, hse⟩ : ∃ u, u = x.things.getD r.no.toNat ⟨[]⟩ := ⟨_, rfl⟩
    have hb : thB m r = u.b := by rw [hse, hxe]; rfl
    rw [← hxe] at hx ht ⊢
    rw [← hse] at ht
    rw [hb]
    simp only [e, decide_true, cond_true]
    cases hpu : (pua u.b k s).2 with
    | false =>
      simp only [cond_false, and_true]
      exact ⟨⟨hq, hl⟩, Nat.le_refl _⟩
    | true =>
      simp only [cond_true, and_true]
      have hy := hq.2 _ (List.mem_of_getElem? hx)
      have hpl := pua_len u.b k s
      have hz := hy.2.1.2 _ (List.mem_of_getElem? ht)
      have hn : n_SfS (x.things.set r.no.toNat ⟨(pua u.b k s).1⟩) = n_SfS x.things := by
        unfold n_SfS
        rw [List.length_set, cntL_setle (y := ⟨(pua u.b k s).1⟩) n1_SfS ht (show (pua u.b k s).1.length = u.b.length from hpl)]
      have hs := rooms_set (y := wrtR x r.no.toNat (pua u.b k s).1) hq hx ⟨hy.1, ⟨by simp only [wrtR, List.length_set]; exact hy.2.1.1, fun z hz' => by
        rcases List.mem_or_eq_of_mem_set hz' with h | rfl
        · exact hy.2.1.2 _ h
        · show (pua u.b k s).1.length ≤ BM
          rw [hpl]
          exact hz⟩, hy.2.2⟩ 0 (by unfold n1_RmS wrtR; dsimp only; rw [hn]; exact Nat.le_refl _)
      exact ⟨⟨hs.1, hl⟩, hs.2⟩
  · simp only [e, decide_false, cond_true, cond_false, and_true]
    exact ⟨⟨hq, hl⟩, Nat.le_refl _⟩
end Go.Mach.F
namespace Go.Mach.F
open Go Go.Mach Go.Proofs.Try
--=set_option maxRecDepth 100000
def ok_hdMl (x : Ml × Int) : Prop := okh_RmS (x.1.rooms, x.2) ∧ okh_LI (x.1.log, x.2 + cntL c1_RmS x.1.rooms)
def ea_hdMl (x : Ml × Int) : List Arg := [aR x.1.cs, aI x.2]
def f_hdMl (x : Ml × Int) : Int := (if x.1.rooms = mk_RmS x.1.rooms (x.2) then (if x.1.log = mk_LI x.1.log (x.2 + cntL c1_RmS x.1.rooms) then x.2 + cntL c1_RmS x.1.rooms + cntL c1_LI x.1.log else -1) else -1)
noncomputable def e_hdMl : Ent := ent [] ok_hdMl ea_hdMl (erI 2) f_hdMl
theorem ea_hdMl_inj (x y : Ml × Int) (h : ea_hdMl x = ea_hdMl y) : x = y := by
  obtain ⟨l1, k1⟩ := x
  obtain ⟨l2, k2⟩ := y
  simp only [ea_hdMl, List.cons.injEq, and_true, true_and] at h
  obtain ⟨e0, e1⟩ := h
  obtain rfl := Ml.cs_ext (aR_inj e0)
  obtain rfl := aI_inj e1
  rfl
theorem dm_hdMl {l : Ml} {k : Int} (h : ok_hdMl (l, k)) : dom ok_hdMl ea_hdMl [(0, true, [C.tr false (T.int IntKind.i64 l.c.chunks), C.tr false (T.int IntKind.i64 l.c.size), C.tr false (T.int IntKind.i64 l.c.slots), C.tr false (T.int IntKind.i64 l.c.tax), C.tr false (T.int IntKind.i64 l.c.slice), C.tr false (T.int IntKind.i64 l.c.gens), C.tr false (T.arr 11 l.rooms.length (atL Rm.cs l.rooms)), C.tr false (T.arr 1 l.log.length (atL rowI l.log))]), (0, false, [C.tr false (T.int IntKind.i64 k)])] = true := dom_ea (ea := ea_hdMl) (x := (l, k)) h
theorem iv_hdMl {l : Ml} {k : Int} (h : ok_hdMl (l, k)) : inv ok_hdMl ea_hdMl [(0, true, [C.tr false (T.int IntKind.i64 l.c.chunks), C.tr false (T.int IntKind.i64 l.c.size), C.tr false (T.int IntKind.i64 l.c.slots), C.tr false (T.int IntKind.i64 l.c.tax), C.tr false (T.int IntKind.i64 l.c.slice), C.tr false (T.int IntKind.i64 l.c.gens), C.tr false (T.arr 11 l.rooms.length (atL Rm.cs l.rooms)), C.tr false (T.arr 1 l.log.length (atL rowI l.log))]), (0, false, [C.tr false (T.int IntKind.i64 k)])] = (l, k) := inv_ea ea_hdMl_inj (x := (l, k)) h
def i_hdMl : Nat := 52
noncomputable abbrev F_hdMl : Func := f52
def kp_hdMl : List (Nat × List Nat) := [(0, [4, 8, 9]), (1, [4, 8, 9]), (2, [4, 8, 9, 40]), (3, [16]), (4, [4]), (5, [4, 64]), (6, [16]), (7, [16])]
theorem pre_hdMl (l : Ml) (k : Int) (n : Nat) : body prog (tabS [(i_hdRmS, e_hdRmS), (i_hdLI, e_hdLI)]) kp_hdMl n F_hdMl [aR l.cs, aI k] = (
 entK okh_RmS eah_RmS (f_hdRmS) [(0, false, [C.tr false (eL 11 Rm.cs l.2)]), (0, false, [C.tr false (T.int IntKind.i64 k)])] fun (r1 : Int) =>
 bif decide (r1 < 0) then
  some ([(false, [.tr true (T.int IntKind.i64 (-1))])], [(false, []), (false, [])])
 else
 entK okh_LI eah_LI (f_hdLI) [(0, false, [C.tr false (eL 1 rowI l.3)]), (0, false, [C.tr false (T.int IntKind.i64 r1)])] fun (r2 : Int) =>
 bif decide (r2 < 0) then
  some ([(false, [.tr true (T.int IntKind.i64 (-1))])], [(false, []), (false, [])])
 else
 some ([(false, [.tr true (T.int IntKind.i64 r2)])], [(false, []), (false, [])])) := by kernel_rfl
theorem body_hdMl (l : Ml) (k : Int) (n : Nat) (h : ok_hdMl (l, k)) : body prog (tabS [(i_hdRmS, e_hdRmS), (i_hdLI, e_hdLI)]) kp_hdMl n F_hdMl (ea_hdMl (l, k)) = some (erI 2 (f_hdMl (l, k))) := by
  have hbm := bm
  have y0 : okh_RmS (l.rooms, k) := h.1
  have z0 := y0.2.1
  have w0 := y0.2.2
  dsimp only at z0 w0
  have y1 : okh_LI (l.log, k + cntL c1_RmS l.rooms) := h.2
  have z1 := y1.2.1
  have w1 := y1.2.2
  dsimp only at z1 w1
  unfold ea_hdMl f_hdMl
  try dsimp only
  rw [pre_hdMl]
  simp only [lt_d, ge0_d, Int.toNat_natCast, blt_d, ble_self, beq_self, decide_true, cond_true, Bool.and_self, Bool.and_true, Bool.true_and, gd_true, Nat.zero_add, List.getD_cons_zero, List.getD_cons_succ, isI_int, toI_int, isB_bool, toB_bool, eL_T, arr_ln, arr_fn, arr_wd, arr_is, arr_get, eL_T, Ml.cs]
  rw [entK_of (dm_hdRmS y0) (iv_hdRmS y0)]
  by_cases e0 : l.rooms = mk_RmS l.rooms (k)
  case neg =>
    simp only [n_hdRmS e0, if_neg e0, decide_eq_true (show (-1 : Int) < 0 by omega), cond_true]
    rfl
  rw [y_hdRmS e0, if_pos e0]
  simp only [lt_d, ge0_d, Int.toNat_natCast, blt_d, ble_self, beq_self, decide_true, cond_true, Bool.and_self, Bool.and_true, Bool.true_and, gd_true, Nat.zero_add, List.getD_cons_zero, List.getD_cons_succ, isI_int, toI_int, isB_bool, toB_bool, eL_T, arr_ln, arr_fn, arr_wd, arr_is, arr_get, decide_eq_false (show ¬ k + (cntL c1_RmS l.rooms : Int) < 0 by omega), cond_false]
  rw [entK_of (dm_hdLI y1) (iv_hdLI y1)]
  by_cases e1 : l.log = mk_LI l.log (k + cntL c1_RmS l.rooms)
  case neg =>
    simp only [n_hdLI e1, if_neg e1, decide_eq_true (show (-1 : Int) < 0 by omega), cond_true]
    rfl
  rw [y_hdLI e1, if_pos e1]
  simp only [lt_d, ge0_d, Int.toNat_natCast, blt_d, ble_self, beq_self, decide_true, cond_true, Bool.and_self, Bool.and_true, Bool.true_and, gd_true, Nat.zero_add, List.getD_cons_zero, List.getD_cons_succ, isI_int, toI_int, isB_bool, toB_bool, eL_T, arr_ln, arr_fn, arr_wd, arr_is, arr_get, decide_eq_false (show ¬ k + cntL c1_RmS l.rooms + (cntL c1_LI l.log : Int) < 0 by omega), cond_false]
  try rfl
theorem s_hdMl : EntOk prog i_hdMl e_hdMl := ent_ok ea_hdMl_inj fun x hx =>
  body_sound (φ := (tabS [(i_hdRmS, e_hdRmS), (i_hdLI, e_hdLI)])) (tabS_cons s_hdRmS (tabS_cons s_hdLI tabS_nil)) mixed (kp := kp_hdMl) (n := 0) func52 (c := bodyOf F_hdMl) (by kernel_rfl) (body_hdMl x.1 x.2 (0) hx) (name_ok (by kernel_rfl))
end Go.Mach.F
