/- Lemmas and definitions of the proof (Fm Mr Rx Ry Dl Rz Dm). Conditions: none. -/
import Derived.Test.YtefcnddlkdfjmaaZ4
set_option linter.all false
namespace Go.Mach.F
open Go Go.Mach Go.Proofs.Try
--=set_option maxRecDepth 100000
theorem int_eqM (a b : Int) : (a == b) = decide (a = b) := by by_cases h : a = b <;> simp [h]
def m1_RmS (x : Rm) (k : Int) : Rm := ⟨⟨(k), (k + 1)⟩, ⟨(k + 1 + 1), (k + 1 + 1 + 1)⟩, (mk_HdS x.kids (k + 1 + 1 + 1 + 1)), (k + 1 + 1 + 1 + 1 + cntL c1_HdS x.kids), (k + 1 + 1 + 1 + 1 + cntL c1_HdS x.kids + 1), (decide (Int.tmod (k + 1 + 1 + 1 + 1 + cntL c1_HdS x.kids + 1 + 1) 3 = 0)), (k + 1 + 1 + 1 + 1 + cntL c1_HdS x.kids + 1 + 1 + 1), (mk_SfS x.things (k + 1 + 1 + 1 + 1 + cntL c1_HdS x.kids + 1 + 1 + 1 + 1)), (mk_LI x.tags (k + 1 + 1 + 1 + 1 + cntL c1_HdS x.kids + 1 + 1 + 1 + 1 + cntL c1_SfS x.things))⟩
def c1_RmS (x : Rm) : Nat := 1 + 1 + 1 + 1 + cntL c1_HdS x.kids + 1 + 1 + 1 + 1 + cntL c1_SfS x.things + cntL c1_LI x.tags
def okh_RmS (x : List Rm × Int) : Prop := okq_RmS x.1 ∧ 0 ≤ x.2 ∧ x.2 + cntL c1_RmS x.1 ≤ BM
def eah_RmS (x : List Rm × Int) : List Arg := [aT (eL 11 Rm.cs x.1), aI x.2]
def eam_RmS (x : List Rm × Int) : List Arg := [lT (eL 11 Rm.cs x.1), aI x.2]
def mk_RmS (l : List Rm) (k : Int) : List Rm := markL m1_RmS c1_RmS l k
def f_hdRmS (x : List Rm × Int) : Int := if x.1 = mk_RmS x.1 x.2 then x.2 + cntL c1_RmS x.1 else -1
def f_mkRmS (x : List Rm × Int) : List Rm := mk_RmS x.1 x.2
def f_ctRmS (x : List Rm × Int) : Int := x.2 + cntL c1_RmS x.1
noncomputable def e_hdRmS : Ent := ent [] okh_RmS eah_RmS (erI 2) f_hdRmS
noncomputable def e_mkRmS : Ent := ent [1] okh_RmS eam_RmS (fun x => ([oT (.int .i64 (f_ctRmS x))], [oT (eL 11 Rm.cs (f_mkRmS x)), nul])) fun x => x
theorem eah_RmS_inj (x y : List Rm × Int) (h : eah_RmS x = eah_RmS y) : x = y := by
  simp only [eah_RmS, aI, aT, List.cons.injEq, Prod.mk.injEq, true_and, and_true, C.tr.injEq, T.int.injEq] at h
  exact Prod.ext (eL_inj Rm.cs_inj h.1) h.2
theorem eam_RmS_inj (x y : List Rm × Int) (h : eam_RmS x = eam_RmS y) : x = y := by
  simp only [eam_RmS, lT, aI, aT, List.cons.injEq, Prod.mk.injEq, true_and, and_true, C.tr.injEq, T.int.injEq] at h
  exact Prod.ext (eL_inj Rm.cs_inj h.1) h.2
def i_hdRmS : Nat := 69
noncomputable abbrev F_hdRmS : Func := f69
def kp_hdRmS : List (Nat × List Nat) := [(0, [0, 4]), (1, [0, 4, 20]), (2, [0, 4, 20, 36]), (3, [0, 4, 20]), (4, [0, 4, 20, 76]), (5, [16]), (6, [0, 4, 20]), (7, [0, 4, 20, 116]), (8, [16]), (9, [0, 4, 20]), (10, [0, 4, 20, 156]), (11, [16]), (12, [0, 4, 20]), (13, [0, 4, 20, 196]), (14, [16]), (15, [0, 4, 20]), (16, [0, 4, 20]), (17, [0, 4, 20, 240]), (18, [16]), (19, [0, 4, 20, 268]), (20, [16]), (21, [0, 4, 20]), (22, [0, 4, 20, 304]), (23, [16]), (24, [0, 4, 20]), (25, [0, 4, 20, 348]), (26, [16]), (27, [0, 4, 20]), (28, [0, 4, 20, 384]), (29, [16]), (30, [0, 4, 20]), (31, [0, 4, 20]), (32, [0, 4, 20, 428]), (33, [16]), (34, [0, 4, 20]), (35, [0, 4, 20, 464]), (36, [16]), (37, [16])]
def ts_hdRmS : List Nat := [0, 0]
def st_hdRmS_1 (l : List Rm) (k : Int) (x4 : Int) (x20 : Int) : St := [(0, ⟨z0, [(false, [.tr false (eL 11 Rm.cs l)])]⟩), (4, ⟨z0, [(false, [.tr true (T.int IntKind.i64 x4)])]⟩), (20, ⟨z0, [(false, [.tr true (T.int IntKind.i64 x20)])]⟩)]
def ex_hdRmS_1_1 (l : List Rm) (k : Int) (x4 : Int) (x20 : Int) : St := [(16, ⟨z0, [(false, [.tr true (T.int IntKind.i64 (-1))])]⟩)]
def ex_hdRmS_1_2 (l : List Rm) (k : Int) (x4 : Int) (x20 : Int) : St := [(0, ⟨z0, [(false, [.tr false (eL 11 Rm.cs l)])]⟩), (4, ⟨z0, [(false, [.tr true (T.int IntKind.i64 x4)])]⟩), (20, ⟨z0, [(false, [.tr true (T.int IntKind.i64 x20)])]⟩), (36, ⟨z0, []⟩)]
theorem round_hdRmS_1 (l : List Rm) (k : Int) (x4 : Int) (x20 : Int) (n : Nat) (K : Ex → St → Res) : roundAt prog (tabS [(i_hdHdS, e_hdHdS), (i_hdSfS, e_hdSfS), (i_hdLI, e_hdLI)]) kp_hdRmS F_hdRmS [1, 0, 1, 0] n (st_hdRmS_1 l k x4 x20) K = (
 bif decide (x20 < (↑l.length : Int)) then
  gd (decide (0 ≤ x20) && (x20.toNat.blt l.length && true)) <|
  gd (T.isI IntKind.i64 (atL Rm.cs l x20.toNat (0 + 0))) <|
  bif (atL Rm.cs l x20.toNat (0 + 0)).toI != x4 then
   K .ret (ex_hdRmS_1_1 l k x4 x20)
  else
  gd (decide (0 ≤ x20) && (x20.toNat.blt l.length && true)) <|
  gd (T.isI IntKind.i64 (atL Rm.cs l x20.toNat (0 + 1))) <|
  bif (atL Rm.cs l x20.toNat (0 + 1)).toI != IntKind.i64.wrap (x4 + 1) then
   K .ret (ex_hdRmS_1_1 l k x4 x20)
  else
  gd (decide (0 ≤ x20) && (x20.toNat.blt l.length && true)) <|
  gd (T.isI IntKind.i64 (atL Rm.cs l x20.toNat (2 + 0))) <|
  bif (atL Rm.cs l x20.toNat (2 + 0)).toI != IntKind.i64.wrap (IntKind.i64.wrap (x4 + 1) + 1) then
   K .ret (ex_hdRmS_1_1 l k x4 x20)
  else
  gd (decide (0 ≤ x20) && (x20.toNat.blt l.length && true)) <|
  gd (T.isI IntKind.i64 (atL Rm.cs l x20.toNat (2 + 1))) <|
  bif (atL Rm.cs l x20.toNat (2 + 1)).toI != IntKind.i64.wrap (IntKind.i64.wrap (IntKind.i64.wrap (x4 + 1) + 1) + 1) then
   K .ret (ex_hdRmS_1_1 l k x4 x20)
  else
  gd (decide (0 ≤ x20) && (x20.toNat.blt l.length && true)) <|
  gd ((atL Rm.cs l x20.toNat 4).isArr && (atL Rm.cs l x20.toNat 4).wd.beq 2) <|
  entK okh_HdS eah_HdS (f_hdHdS) [(0, false, [C.tr false (T.arr 2 (atL Rm.cs l x20.toNat 4).ln (atL Rm.cs l x20.toNat 4).fn)]),
  (0, false,
    [C.tr false
        (T.int IntKind.i64
          (IntKind.i64.wrap (IntKind.i64.wrap (IntKind.i64.wrap (IntKind.i64.wrap (x4 + 1) + 1) + 1) + 1)))])] fun (r1 : Int) =>
  bif decide (r1 < 0) then
   K .ret (ex_hdRmS_1_1 l k x4 x20)
  else
  gd (decide (0 ≤ x20) && (x20.toNat.blt l.length && true)) <|
  gd (T.isI IntKind.i64 (atL Rm.cs l x20.toNat 5)) <|
  bif (atL Rm.cs l x20.toNat 5).toI != r1 then
   K .ret (ex_hdRmS_1_1 l k x4 x20)
  else
  gd (decide (0 ≤ x20) && (x20.toNat.blt l.length && true)) <|
  gd (T.isI IntKind.i64 (atL Rm.cs l x20.toNat 6)) <|
  bif (atL Rm.cs l x20.toNat 6).toI != IntKind.i64.wrap (r1 + 1) then
   K .ret (ex_hdRmS_1_1 l k x4 x20)
  else
  gd (decide (0 ≤ x20) && (x20.toNat.blt l.length && true)) <|
  gd ((atL Rm.cs l x20.toNat 7).isB) <|
  bif !(atL Rm.cs l x20.toNat 7).toB == ((IntKind.i64.wrap (IntKind.i64.wrap (r1 + 1) + 1)).tmod 3 == 0) then
   K .ret (ex_hdRmS_1_1 l k x4 x20)
  else
  gd (decide (0 ≤ x20) && (x20.toNat.blt l.length && true)) <|
  gd (T.isI IntKind.i64 (atL Rm.cs l x20.toNat 8)) <|
  bif (atL Rm.cs l x20.toNat 8).toI != IntKind.i64.wrap (IntKind.i64.wrap (IntKind.i64.wrap (r1 + 1) + 1) + 1) then
   K .ret (ex_hdRmS_1_1 l k x4 x20)
  else
  gd (decide (0 ≤ x20) && (x20.toNat.blt l.length && true)) <|
  gd ((atL Rm.cs l x20.toNat 9).isArr && (atL Rm.cs l x20.toNat 9).wd.beq 1) <|
  entK okh_SfS eah_SfS (f_hdSfS) [(0, false, [C.tr false (T.arr 1 (atL Rm.cs l x20.toNat 9).ln (atL Rm.cs l x20.toNat 9).fn)]),
  (0, false,
    [C.tr false
        (T.int IntKind.i64
          (IntKind.i64.wrap (IntKind.i64.wrap (IntKind.i64.wrap (IntKind.i64.wrap (r1 + 1) + 1) + 1) + 1)))])] fun (r2 : Int) =>
  bif decide (r2 < 0) then
   K .ret (ex_hdRmS_1_1 l k x4 x20)
  else
  gd (decide (0 ≤ x20) && (x20.toNat.blt l.length && true)) <|
  gd ((atL Rm.cs l x20.toNat 10).isArr && (atL Rm.cs l x20.toNat 10).wd.beq 1) <|
  entK okh_LI eah_LI (f_hdLI) [(0, false, [C.tr false (T.arr 1 (atL Rm.cs l x20.toNat 10).ln (atL Rm.cs l x20.toNat 10).fn)]),
  (0, false, [C.tr false (T.int IntKind.i64 r2)])] fun (r3 : Int) =>
  bif decide (r3 < 0) then
   K .ret (ex_hdRmS_1_1 l k x4 x20)
  else
  K .normal (st_hdRmS_1 l k r3 (IntKind.i64.wrap (x20 + 1)))
 else
 K (.exit 0) (ex_hdRmS_1_2 l k x4 x20)) := by kernel_rfl
theorem post_hdRmS_1_1 (l : List Rm) (k : Int) (x4 : Int) (x20 : Int) (n : Nat) : contAt prog (tabS [(i_hdHdS, e_hdHdS), (i_hdSfS, e_hdSfS), (i_hdLI, e_hdLI)]) kp_hdRmS F_hdRmS ts_hdRmS [1, 0, 1, 0] [] n .ret (ex_hdRmS_1_1 l k x4 x20) = (
 some ([(false, [.tr true (T.int IntKind.i64 (-1))])], [(false, []), (false, [])])) := by kernel_rfl
theorem post_hdRmS_1_2 (l : List Rm) (k : Int) (x4 : Int) (x20 : Int) (n : Nat) : contAt prog (tabS [(i_hdHdS, e_hdHdS), (i_hdSfS, e_hdSfS), (i_hdLI, e_hdLI)]) kp_hdRmS F_hdRmS ts_hdRmS [1, 0, 1, 0] [] n (.exit 0) (ex_hdRmS_1_2 l k x4 x20) = (
 some ([(false, [.tr true (T.int IntKind.i64 x4)])], [(false, []), (false, [])])) := by kernel_rfl
theorem pre_hdRmS (l : List Rm) (k : Int) (n : Nat) : body prog (tabS [(i_hdHdS, e_hdHdS), (i_hdSfS, e_hdSfS), (i_hdLI, e_hdLI)]) kp_hdRmS n F_hdRmS [aT (eL 11 Rm.cs l), aI k] = (
 loopAt prog (tabS [(i_hdHdS, e_hdHdS), (i_hdSfS, e_hdSfS), (i_hdLI, e_hdLI)]) kp_hdRmS F_hdRmS [1, 0, 1, 0] n n (st_hdRmS_1 l k (k) (0)) (contAt prog (tabS [(i_hdHdS, e_hdHdS), (i_hdSfS, e_hdSfS), (i_hdLI, e_hdLI)]) kp_hdRmS F_hdRmS ts_hdRmS [1, 0, 1, 0] [] n)) := by kernel_rfl
theorem body_hdRmS (l : List Rm) (k : Int) (h : okh_RmS (l, k)) : body prog (tabS [(i_hdHdS, e_hdHdS), (i_hdSfS, e_hdSfS), (i_hdLI, e_hdLI)]) kp_hdRmS (l.length + 1) F_hdRmS (eah_RmS (l, k)) = some (erI 2 (f_hdRmS (l, k))) := by
  obtain ⟨hl, hk0, hk1⟩ := h
  have hbm := bm
  dsimp only at hl hk0 hk1
  have hl' : l.length ≤ BM := hl.1
  unfold eah_RmS f_hdRmS
  dsimp only
  rw [pre_hdRmS]
  have hst : st_hdRmS_1 l k k 0 = (fun i : Nat => st_hdRmS_1 l k (k + cntL c1_RmS (l.take i)) (i : Nat)) 0 := by simp [cntL]
  rw [hst, heldS m1_RmS c1_RmS l k (fun i : Nat => st_hdRmS_1 l k (k + cntL c1_RmS (l.take i)) (i : Nat)) (fun i : Nat => ex_hdRmS_1_1 l k (k + cntL c1_RmS (l.take i)) (i : Nat)) (ex_hdRmS_1_2 l k (k + cntL c1_RmS l) l.length) (fun i x K hx => ?_) (fun K => ?_) (fun i => post_hdRmS_1_1 l k _ _ _) (post_hdRmS_1_2 l k _ _ _) _ (Nat.le_refl _)]
  · unfold mk_RmS
    split <;> rfl
  · have hi := (List.getElem?_eq_some_iff.1 hx).1
    have hxm : x ∈ l := List.mem_of_getElem? hx
    have hc := cntL_take c1_RmS l hx
    have hcl := cntL_le c1_RmS l (i + 1)
    have hcx : c1_RmS x = 1 + 1 + 1 + 1 + cntL c1_HdS x.kids + 1 + 1 + 1 + 1 + cntL c1_SfS x.things + cntL c1_LI x.tags := rfl
    have h0 := (hl.2 _ hxm).1
    have h1 := (hl.2 _ hxm).2.1
    have h2 := (hl.2 _ hxm).2.2
    rw [hc, round_hdRmS_1]
    obtain ⟨k0, hk⟩ : ∃ k0, k0 = k + (cntL c1_RmS (l.take i) : Int) := ⟨_, rfl⟩
    have hk2 : k + ((cntL c1_RmS (l.take i) + c1_RmS x : Nat) : Int) = k0 + 1 + 1 + 1 + 1 + cntL c1_HdS x.kids + 1 + 1 + 1 + 1 + cntL c1_SfS x.things + cntL c1_LI x.tags := by omega
    rw [hk2, ← hk]
    have g0 : okh_HdS (x.kids, k0 + 1 + 1 + 1 + 1) := ⟨h0, by dsimp only; omega, by dsimp only; omega⟩
    have g1 : okh_SfS (x.things, k0 + 1 + 1 + 1 + 1 + cntL c1_HdS x.kids + 1 + 1 + 1 + 1) := ⟨h1, by dsimp only; omega, by dsimp only; omega⟩
    have g2 : okh_LI (x.tags, k0 + 1 + 1 + 1 + 1 + cntL c1_HdS x.kids + 1 + 1 + 1 + 1 + cntL c1_SfS x.things) := ⟨h2, by dsimp only; omega, by dsimp only; omega⟩
    simp (disch := omega) only [lt_d, ge0_d, Int.toNat_natCast, blt_d, ble_self, beq_self, decide_true, cond_true, Bool.and_self, Bool.and_true, Bool.true_and, gd_true, Nat.zero_add, List.getD_cons_zero, List.getD_cons_succ, isI_int, toI_int, isB_bool, toB_bool, eL_T, arr_ln, arr_fn, arr_wd, arr_is, arr_get, hi, atL_of hx, Rm.cs, int_ne, bool_ne, int_eqM, bool_eq, wrapI, wrapS]
    by_cases e0 : x.h.slot = k0
    case neg =>
      rw [decide_eq_false e0, decide_eq_false (show ¬ x = m1_RmS x k0 from fun e => e0 (congrArg (fun z : Rm => z.h.slot) e))]
      rfl
    rw [decide_eq_true e0]
    simp (disch := omega) only [Bool.not_true, cond_false, wrapI]
    by_cases e1 : x.h.gen = k0 + 1
    case neg =>
      rw [decide_eq_false e1, decide_eq_false (show ¬ x = m1_RmS x k0 from fun e => e1 (congrArg (fun z : Rm => z.h.gen) e))]
      rfl
    rw [decide_eq_true e1]
    simp (disch := omega) only [Bool.not_true, cond_false, wrapI]
    by_cases e2 : x.up.slot = k0 + 1 + 1
    case neg =>
      rw [decide_eq_false e2, decide_eq_false (show ¬ x = m1_RmS x k0 from fun e => e2 (congrArg (fun z : Rm => z.up.slot) e))]
      rfl
    rw [decide_eq_true e2]
    simp (disch := omega) only [Bool.not_true, cond_false, wrapI]
    by_cases e3 : x.up.gen = k0 + 1 + 1 + 1
    case neg =>
      rw [decide_eq_false e3, decide_eq_false (show ¬ x = m1_RmS x k0 from fun e => e3 (congrArg (fun z : Rm => z.up.gen) e))]
      rfl
    rw [decide_eq_true e3]
    simp (disch := omega) only [Bool.not_true, cond_false, wrapI]
    simp only [entK_of (dm_hdHdS g0) (iv_hdHdS g0), gd_true]
    by_cases e4 : x.kids = mk_HdS x.kids (k0 + 1 + 1 + 1 + 1)
    case neg =>
      simp only [n_hdHdS e4]
      rw [decide_eq_false (show ¬ x = m1_RmS x k0 from fun e => e4 (congrArg (fun z : Rm => z.kids) e))]
      rfl
    simp only [y_hdHdS e4]
    rw [decide_eq_false (show ¬ k0 + 1 + 1 + 1 + 1 + (cntL c1_HdS x.kids : Int) < 0 by omega)]
    simp (disch := omega) only [cond_false, wrapI]
    by_cases e5 : x.ep = k0 + 1 + 1 + 1 + 1 + cntL c1_HdS x.kids
    case neg =>
      rw [decide_eq_false e5, decide_eq_false (show ¬ x = m1_RmS x k0 from fun e => e5 (congrArg (fun z : Rm => z.ep) e))]
      rfl
    rw [decide_eq_true e5]
    simp (disch := omega) only [Bool.not_true, cond_false, wrapI]
    by_cases e6 : x.chunks = k0 + 1 + 1 + 1 + 1 + cntL c1_HdS x.kids + 1
    case neg =>
      rw [decide_eq_false e6, decide_eq_false (show ¬ x = m1_RmS x k0 from fun e => e6 (congrArg (fun z : Rm => z.chunks) e))]
      rfl
    rw [decide_eq_true e6]
    simp (disch := omega) only [Bool.not_true, cond_false, wrapI]
    by_cases e7 : x.cur = decide (Int.tmod (k0 + 1 + 1 + 1 + 1 + cntL c1_HdS x.kids + 1 + 1) 3 = 0)
    case neg =>
      rw [decide_eq_false e7, decide_eq_false (show ¬ x = m1_RmS x k0 from fun e => e7 (congrArg (fun z : Rm => z.cur) e))]
      rfl
    rw [decide_eq_true e7]
    simp (disch := omega) only [Bool.not_true, cond_false, wrapI]
    by_cases e8 : x.bump = k0 + 1 + 1 + 1 + 1 + cntL c1_HdS x.kids + 1 + 1 + 1
    case neg =>
      rw [decide_eq_false e8, decide_eq_false (show ¬ x = m1_RmS x k0 from fun e => e8 (congrArg (fun z : Rm => z.bump) e))]
      rfl
    rw [decide_eq_true e8]
    simp (disch := omega) only [Bool.not_true, cond_false, wrapI]
    simp only [entK_of (dm_hdSfS g1) (iv_hdSfS g1), gd_true]
    by_cases e9 : x.things = mk_SfS x.things (k0 + 1 + 1 + 1 + 1 + cntL c1_HdS x.kids + 1 + 1 + 1 + 1)
    case neg =>
      simp only [n_hdSfS e9]
      rw [decide_eq_false (show ¬ x = m1_RmS x k0 from fun e => e9 (congrArg (fun z : Rm => z.things) e))]
      rfl
    simp only [y_hdSfS e9]
    rw [decide_eq_false (show ¬ k0 + 1 + 1 + 1 + 1 + cntL c1_HdS x.kids + 1 + 1 + 1 + 1 + (cntL c1_SfS x.things : Int) < 0 by omega)]
    simp (disch := omega) only [cond_false, wrapI]
    simp only [entK_of (dm_hdLI g2) (iv_hdLI g2), gd_true]
    by_cases e10 : x.tags = mk_LI x.tags (k0 + 1 + 1 + 1 + 1 + cntL c1_HdS x.kids + 1 + 1 + 1 + 1 + cntL c1_SfS x.things)
    case neg =>
      simp only [n_hdLI e10]
      rw [decide_eq_false (show ¬ x = m1_RmS x k0 from fun e => e10 (congrArg (fun z : Rm => z.tags) e))]
      rfl
    simp only [y_hdLI e10]
    rw [decide_eq_false (show ¬ k0 + 1 + 1 + 1 + 1 + cntL c1_HdS x.kids + 1 + 1 + 1 + 1 + cntL c1_SfS x.things + (cntL c1_LI x.tags : Int) < 0 by omega)]
    simp (disch := omega) only [cond_false, wrapI]
    have hm : x = m1_RmS x k0 := by
      rcases x with ⟨⟨x0, x1⟩, ⟨x2, x3⟩, x4, x5, x6, x7, x8, x9, x10⟩
      simp only [m1_RmS, Rm.mk.injEq, Hd.mk.injEq]
      exact ⟨⟨e0, e1⟩, ⟨e2, e3⟩, e4, e5, e6, e7, e8, e9, e10⟩
    rw [decide_eq_true hm]
    simp only [Bool.not_true, cond_false]
    congr 2
  · rw [round_hdRmS_1]
    simp only [lt_d, Nat.lt_irrefl, decide_false, cond_false, List.take_length]
theorem s_hdRmS : EntOk prog i_hdRmS e_hdRmS := ent_ok eah_RmS_inj fun x hx =>
  body_sound (φ := (tabS [(i_hdHdS, e_hdHdS), (i_hdSfS, e_hdSfS), (i_hdLI, e_hdLI)])) (tabS_cons s_hdHdS (tabS_cons s_hdSfS (tabS_cons s_hdLI tabS_nil))) mixed (kp := kp_hdRmS) (n := x.1.length + 1) func69 (c := bodyOf F_hdRmS) (by kernel_rfl) (body_hdRmS x.1 x.2 hx) (name_ok (by kernel_rfl))
def i_mkRmS : Nat := 68
noncomputable abbrev F_mkRmS : Func := f68
def kp_mkRmS : List (Nat × List Nat) := [(0, [0, 4, 2]), (1, [0, 4, 20, 2]), (2, [0, 4, 20, 36, 2]), (3, [0, 4, 20, 2]), (4, [0, 4, 20, 2]), (5, [0, 4, 20, 2]), (6, [0, 4, 20, 2]), (7, [0, 4, 20, 2]), (8, [0, 4, 20, 2]), (9, [0, 4, 20, 2]), (10, [0, 4, 20, 2]), (11, [0, 4, 20, 2]), (12, [0, 4, 20, 2]), (13, [0, 4, 20, 2]), (14, [0, 4, 20, 2]), (15, [0, 4, 20, 2]), (16, [0, 4, 20, 2]), (17, [0, 4, 20, 2]), (18, [0, 4, 20, 2]), (19, [0, 4, 20, 2]), (20, [0, 4, 20, 2]), (21, [0, 4, 20, 2]), (22, [0, 4, 20, 2]), (23, [16, 2])]
def ts_mkRmS : List Nat := [1, 0]
def st_mkRmS_1 (l : List Rm) (k : Int) (x4 : Int) (x20 : Int) (nx2 : Nat) (fx2 : Nat → Nat → T) : St := [(0, ⟨z0, [(false, [(C.ref 2 0 [0, 0] 11 0 l.length)])]⟩), (4, ⟨z0, [(false, [.tr true (T.int IntKind.i64 x4)])]⟩), (20, ⟨z0, [(false, [.tr true (T.int IntKind.i64 x20)])]⟩), (2, ⟨z0, [(false, [.tr true (.arr (11) (nx2) (fx2))])]⟩)]
def ex_mkRmS_1_1 (l : List Rm) (k : Int) (x4 : Int) (x20 : Int) (nx2 : Nat) (fx2 : Nat → Nat → T) : St := [(0, ⟨z0, [(false, [(C.ref 2 0 [0, 0] 11 0 l.length)])]⟩), (4, ⟨z0, [(false, [.tr true (T.int IntKind.i64 x4)])]⟩), (20, ⟨z0, [(false, [.tr true (T.int IntKind.i64 x20)])]⟩), (36, ⟨z0, []⟩), (2, ⟨z0, [(false, [.tr true (.arr (11) (nx2) (fx2))])]⟩)]
theorem round_mkRmS_1 (l : List Rm) (k : Int) (x4 : Int) (x20 : Int) (nx2 : Nat) (fx2 : Nat → Nat → T) (n : Nat) (K : Ex → St → Res) : roundAt prog (tabS [(i_mkHdS, e_mkHdS), (i_mkSfS, e_mkSfS), (i_mkLI, e_mkLI)]) kp_mkRmS F_mkRmS [1, 0, 1, 0] n (st_mkRmS_1 l k x4 x20 nx2 fx2) K = (
 bif decide (x20 < (↑l.length : Int)) then
  gd (decide (0 ≤ x20) && (x20.toNat.blt l.length && true)) <|
  gd ((0 + x20.toNat).blt nx2 && true && true) <|
  gd (decide (0 ≤ x20) && (x20.toNat.blt l.length && true)) <|
  gd ((0 + x20.toNat).blt nx2 && true && true) <|
  gd (decide (0 ≤ x20) && (x20.toNat.blt l.length && true)) <|
  gd ((0 + x20.toNat).blt nx2 && true && true) <|
  gd (decide (0 ≤ x20) && (x20.toNat.blt l.length && true)) <|
  gd ((0 + x20.toNat).blt nx2 && true && true) <|
  gd (decide (0 ≤ x20) && (x20.toNat.blt l.length && true)) <|
  gd ((0 + x20.toNat).blt nx2 && true &&
  ((setF (0 + x20.toNat) (2 + 1)
        (T.int IntKind.i64 (IntKind.i64.wrap (IntKind.i64.wrap (IntKind.i64.wrap (x4 + 1) + 1) + 1)))
        (setF (0 + x20.toNat) (2 + 0) (T.int IntKind.i64 (IntKind.i64.wrap (IntKind.i64.wrap (x4 + 1) + 1)))
          (setF (0 + x20.toNat) (0 + 1) (T.int IntKind.i64 (IntKind.i64.wrap (x4 + 1)))
            (setF (0 + x20.toNat) (0 + 0) (T.int IntKind.i64 x4) fx2)))
        (0 + x20.toNat) (4 + 0)).isArr &&
    (setF (0 + x20.toNat) (2 + 1)
            (T.int IntKind.i64 (IntKind.i64.wrap (IntKind.i64.wrap (IntKind.i64.wrap (x4 + 1) + 1) + 1)))
            (setF (0 + x20.toNat) (2 + 0) (T.int IntKind.i64 (IntKind.i64.wrap (IntKind.i64.wrap (x4 + 1) + 1)))
              (setF (0 + x20.toNat) (0 + 1) (T.int IntKind.i64 (IntKind.i64.wrap (x4 + 1)))
                (setF (0 + x20.toNat) (0 + 0) (T.int IntKind.i64 x4) fx2)))
            (0 + x20.toNat) (4 + 0)).wd.beq
      2)) <|
  gd ((0 + x20.toNat).blt nx2 && true && true &&
  ((T.arr 11 nx2
          (setF (0 + x20.toNat) (2 + 1)
            (T.int IntKind.i64 (IntKind.i64.wrap (IntKind.i64.wrap (IntKind.i64.wrap (x4 + 1) + 1) + 1)))
            (setF (0 + x20.toNat) (2 + 0) (T.int IntKind.i64 (IntKind.i64.wrap (IntKind.i64.wrap (x4 + 1) + 1)))
              (setF (0 + x20.toNat) (0 + 1) (T.int IntKind.i64 (IntKind.i64.wrap (x4 + 1)))
                (setF (0 + x20.toNat) (0 + 0) (T.int IntKind.i64 x4) fx2))))).get
      [0 + x20.toNat, 4 + 0]).isArr) <|
  gd ((setF (0 + x20.toNat) (2 + 1)
          (T.int IntKind.i64 (IntKind.i64.wrap (IntKind.i64.wrap (IntKind.i64.wrap (x4 + 1) + 1) + 1)))
          (setF (0 + x20.toNat) (2 + 0) (T.int IntKind.i64 (IntKind.i64.wrap (IntKind.i64.wrap (x4 + 1) + 1)))
            (setF (0 + x20.toNat) (0 + 1) (T.int IntKind.i64 (IntKind.i64.wrap (x4 + 1)))
              (setF (0 + x20.toNat) (0 + 0) (T.int IntKind.i64 x4) fx2)))
          (0 + x20.toNat) (4 + 0)).ln.beq
    ((T.arr 11 nx2
            (setF (0 + x20.toNat) (2 + 1)
              (T.int IntKind.i64 (IntKind.i64.wrap (IntKind.i64.wrap (IntKind.i64.wrap (x4 + 1) + 1) + 1)))
              (setF (0 + x20.toNat) (2 + 0) (T.int IntKind.i64 (IntKind.i64.wrap (IntKind.i64.wrap (x4 + 1) + 1)))
                (setF (0 + x20.toNat) (0 + 1) (T.int IntKind.i64 (IntKind.i64.wrap (x4 + 1)))
                  (setF (0 + x20.toNat) (0 + 0) (T.int IntKind.i64 x4) fx2))))).get
        [0 + x20.toNat, 4 + 0]).ln &&
  Nat.beq 2
    ((T.arr 11 nx2
            (setF (0 + x20.toNat) (2 + 1)
              (T.int IntKind.i64 (IntKind.i64.wrap (IntKind.i64.wrap (IntKind.i64.wrap (x4 + 1) + 1) + 1)))
              (setF (0 + x20.toNat) (2 + 0) (T.int IntKind.i64 (IntKind.i64.wrap (IntKind.i64.wrap (x4 + 1) + 1)))
                (setF (0 + x20.toNat) (0 + 1) (T.int IntKind.i64 (IntKind.i64.wrap (x4 + 1)))
                  (setF (0 + x20.toNat) (0 + 0) (T.int IntKind.i64 x4) fx2))))).get
        [0 + x20.toNat, 4 + 0]).wd) <|
  entK okh_HdS eam_HdS (fun x => x) [(1, false,
    [C.tr true
        (T.arr 2
          (setF (0 + x20.toNat) (2 + 1)
              (T.int IntKind.i64 (IntKind.i64.wrap (IntKind.i64.wrap (IntKind.i64.wrap (x4 + 1) + 1) + 1)))
              (setF (0 + x20.toNat) (2 + 0) (T.int IntKind.i64 (IntKind.i64.wrap (IntKind.i64.wrap (x4 + 1) + 1)))
                (setF (0 + x20.toNat) (0 + 1) (T.int IntKind.i64 (IntKind.i64.wrap (x4 + 1)))
                  (setF (0 + x20.toNat) (0 + 0) (T.int IntKind.i64 x4) fx2)))
              (0 + x20.toNat) (4 + 0)).ln
          ((T.arr 11 nx2
                  (setF (0 + x20.toNat) (2 + 1)
                    (T.int IntKind.i64 (IntKind.i64.wrap (IntKind.i64.wrap (IntKind.i64.wrap (x4 + 1) + 1) + 1)))
                    (setF (0 + x20.toNat) (2 + 0) (T.int IntKind.i64 (IntKind.i64.wrap (IntKind.i64.wrap (x4 + 1) + 1)))
                      (setF (0 + x20.toNat) (0 + 1) (T.int IntKind.i64 (IntKind.i64.wrap (x4 + 1)))
                        (setF (0 + x20.toNat) (0 + 0) (T.int IntKind.i64 x4) fx2))))).get
              [0 + x20.toNat, 4 + 0]).fn)]),
  (0, false,
    [C.tr false
        (T.int IntKind.i64
          (IntKind.i64.wrap (IntKind.i64.wrap (IntKind.i64.wrap (IntKind.i64.wrap (x4 + 1) + 1) + 1) + 1)))])] fun (r1 : List Hd × Int) =>
  gd ((setF (0 + x20.toNat) (2 + 1)
          (T.int IntKind.i64 (IntKind.i64.wrap (IntKind.i64.wrap (IntKind.i64.wrap (x4 + 1) + 1) + 1)))
          (setF (0 + x20.toNat) (2 + 0) (T.int IntKind.i64 (IntKind.i64.wrap (IntKind.i64.wrap (x4 + 1) + 1)))
            (setF (0 + x20.toNat) (0 + 1) (T.int IntKind.i64 (IntKind.i64.wrap (x4 + 1)))
              (setF (0 + x20.toNat) (0 + 0) (T.int IntKind.i64 x4) fx2)))
          (0 + x20.toNat) (4 + 0)).ln.beq
    (f_mkHdS r1).length &&
  ((0 + x20.toNat).blt nx2 && true && true)) <|
  gd (decide (0 ≤ x20) && (x20.toNat.blt l.length && true)) <|
  gd ((0 + x20.toNat).blt nx2 && true && true) <|
  gd (decide (0 ≤ x20) && (x20.toNat.blt l.length && true)) <|
  gd ((0 + x20.toNat).blt nx2 && true && true) <|
  gd (decide (0 ≤ x20) && (x20.toNat.blt l.length && true)) <|
  gd ((0 + x20.toNat).blt nx2 && true && true) <|
  gd (decide (0 ≤ x20) && (x20.toNat.blt l.length && true)) <|
  gd ((0 + x20.toNat).blt nx2 && true && true) <|
  gd (decide (0 ≤ x20) && (x20.toNat.blt l.length && true)) <|
  gd ((0 + x20.toNat).blt nx2 && true &&
  ((setF (0 + x20.toNat) 8
        (T.int IntKind.i64 (IntKind.i64.wrap (IntKind.i64.wrap (IntKind.i64.wrap (f_ctHdS r1 + 1) + 1) + 1)))
        (setF (0 + x20.toNat) 7 (T.bool ((IntKind.i64.wrap (IntKind.i64.wrap (f_ctHdS r1 + 1) + 1)).tmod 3 == 0))
          (setF (0 + x20.toNat) 6 (T.int IntKind.i64 (IntKind.i64.wrap (f_ctHdS r1 + 1)))
            (setF (0 + x20.toNat) 5 (T.int IntKind.i64 (f_ctHdS r1))
              (setF (0 + x20.toNat) (4 + 0) (T.arr 2 (f_mkHdS r1).length (atL Hd.cs (f_mkHdS r1)))
                (setF (0 + x20.toNat) (4 + 0)
                  (T.lent 2
                    (setF (0 + x20.toNat) (2 + 1)
                        (T.int IntKind.i64 (IntKind.i64.wrap (IntKind.i64.wrap (IntKind.i64.wrap (x4 + 1) + 1) + 1)))
                        (setF (0 + x20.toNat) (2 + 0)
                          (T.int IntKind.i64 (IntKind.i64.wrap (IntKind.i64.wrap (x4 + 1) + 1)))
                          (setF (0 + x20.toNat) (0 + 1) (T.int IntKind.i64 (IntKind.i64.wrap (x4 + 1)))
                            (setF (0 + x20.toNat) (0 + 0) (T.int IntKind.i64 x4) fx2)))
                        (0 + x20.toNat) (4 + 0)).ln)
                  (setF (0 + x20.toNat) (2 + 1)
                    (T.int IntKind.i64 (IntKind.i64.wrap (IntKind.i64.wrap (IntKind.i64.wrap (x4 + 1) + 1) + 1)))
                    (setF (0 + x20.toNat) (2 + 0) (T.int IntKind.i64 (IntKind.i64.wrap (IntKind.i64.wrap (x4 + 1) + 1)))
                      (setF (0 + x20.toNat) (0 + 1) (T.int IntKind.i64 (IntKind.i64.wrap (x4 + 1)))
                        (setF (0 + x20.toNat) (0 + 0) (T.int IntKind.i64 x4) fx2)))))))))
        (0 + x20.toNat) (9 + 0)).isArr &&
    (setF (0 + x20.toNat) 8
            (T.int IntKind.i64 (IntKind.i64.wrap (IntKind.i64.wrap (IntKind.i64.wrap (f_ctHdS r1 + 1) + 1) + 1)))
            (setF (0 + x20.toNat) 7
              (T.bool ((IntKind.i64.wrap (IntKind.i64.wrap (f_ctHdS r1 + 1) + 1)).tmod 3 == 0))
              (setF (0 + x20.toNat) 6 (T.int IntKind.i64 (IntKind.i64.wrap (f_ctHdS r1 + 1)))
                (setF (0 + x20.toNat) 5 (T.int IntKind.i64 (f_ctHdS r1))
                  (setF (0 + x20.toNat) (4 + 0) (T.arr 2 (f_mkHdS r1).length (atL Hd.cs (f_mkHdS r1)))
                    (setF (0 + x20.toNat) (4 + 0)
                      (T.lent 2
                        (setF (0 + x20.toNat) (2 + 1)
                            (T.int IntKind.i64
                              (IntKind.i64.wrap (IntKind.i64.wrap (IntKind.i64.wrap (x4 + 1) + 1) + 1)))
                            (setF (0 + x20.toNat) (2 + 0)
                              (T.int IntKind.i64 (IntKind.i64.wrap (IntKind.i64.wrap (x4 + 1) + 1)))
                              (setF (0 + x20.toNat) (0 + 1) (T.int IntKind.i64 (IntKind.i64.wrap (x4 + 1)))
                                (setF (0 + x20.toNat) (0 + 0) (T.int IntKind.i64 x4) fx2)))
                            (0 + x20.toNat) (4 + 0)).ln)
                      (setF (0 + x20.toNat) (2 + 1)
                        (T.int IntKind.i64 (IntKind.i64.wrap (IntKind.i64.wrap (IntKind.i64.wrap (x4 + 1) + 1) + 1)))
                        (setF (0 + x20.toNat) (2 + 0)
                          (T.int IntKind.i64 (IntKind.i64.wrap (IntKind.i64.wrap (x4 + 1) + 1)))
                          (setF (0 + x20.toNat) (0 + 1) (T.int IntKind.i64 (IntKind.i64.wrap (x4 + 1)))
                            (setF (0 + x20.toNat) (0 + 0) (T.int IntKind.i64 x4) fx2)))))))))
            (0 + x20.toNat) (9 + 0)).wd.beq
      1)) <|
  gd ((0 + x20.toNat).blt nx2 && true && true &&
  ((T.arr 11 nx2
          (setF (0 + x20.toNat) 8
            (T.int IntKind.i64 (IntKind.i64.wrap (IntKind.i64.wrap (IntKind.i64.wrap (f_ctHdS r1 + 1) + 1) + 1)))
            (setF (0 + x20.toNat) 7
              (T.bool ((IntKind.i64.wrap (IntKind.i64.wrap (f_ctHdS r1 + 1) + 1)).tmod 3 == 0))
              (setF (0 + x20.toNat) 6 (T.int IntKind.i64 (IntKind.i64.wrap (f_ctHdS r1 + 1)))
                (setF (0 + x20.toNat) 5 (T.int IntKind.i64 (f_ctHdS r1))
                  (setF (0 + x20.toNat) (4 + 0) (T.arr 2 (f_mkHdS r1).length (atL Hd.cs (f_mkHdS r1)))
                    (setF (0 + x20.toNat) (4 + 0)
                      (T.lent 2
                        (setF (0 + x20.toNat) (2 + 1)
                            (T.int IntKind.i64
                              (IntKind.i64.wrap (IntKind.i64.wrap (IntKind.i64.wrap (x4 + 1) + 1) + 1)))
                            (setF (0 + x20.toNat) (2 + 0)
                              (T.int IntKind.i64 (IntKind.i64.wrap (IntKind.i64.wrap (x4 + 1) + 1)))
                              (setF (0 + x20.toNat) (0 + 1) (T.int IntKind.i64 (IntKind.i64.wrap (x4 + 1)))
                                (setF (0 + x20.toNat) (0 + 0) (T.int IntKind.i64 x4) fx2)))
                            (0 + x20.toNat) (4 + 0)).ln)
                      (setF (0 + x20.toNat) (2 + 1)
                        (T.int IntKind.i64 (IntKind.i64.wrap (IntKind.i64.wrap (IntKind.i64.wrap (x4 + 1) + 1) + 1)))
                        (setF (0 + x20.toNat) (2 + 0)
                          (T.int IntKind.i64 (IntKind.i64.wrap (IntKind.i64.wrap (x4 + 1) + 1)))
                          (setF (0 + x20.toNat) (0 + 1) (T.int IntKind.i64 (IntKind.i64.wrap (x4 + 1)))
                            (setF (0 + x20.toNat) (0 + 0) (T.int IntKind.i64 x4) fx2))))))))))).get
      [0 + x20.toNat, 9 + 0]).isArr) <|
  gd ((setF (0 + x20.toNat) 8
          (T.int IntKind.i64 (IntKind.i64.wrap (IntKind.i64.wrap (IntKind.i64.wrap (f_ctHdS r1 + 1) + 1) + 1)))
          (setF (0 + x20.toNat) 7
            (T.bool ((IntKind.i64.wrap (IntKind.i64.wrap (f_ctHdS r1 + 1) + 1)).tmod 3 == 0))
            (setF (0 + x20.toNat) 6 (T.int IntKind.i64 (IntKind.i64.wrap (f_ctHdS r1 + 1)))
              (setF (0 + x20.toNat) 5 (T.int IntKind.i64 (f_ctHdS r1))
                (setF (0 + x20.toNat) (4 + 0) (T.arr 2 (f_mkHdS r1).length (atL Hd.cs (f_mkHdS r1)))
                  (setF (0 + x20.toNat) (4 + 0)
                    (T.lent 2
                      (setF (0 + x20.toNat) (2 + 1)
                          (T.int IntKind.i64 (IntKind.i64.wrap (IntKind.i64.wrap (IntKind.i64.wrap (x4 + 1) + 1) + 1)))
                          (setF (0 + x20.toNat) (2 + 0)
                            (T.int IntKind.i64 (IntKind.i64.wrap (IntKind.i64.wrap (x4 + 1) + 1)))
                            (setF (0 + x20.toNat) (0 + 1) (T.int IntKind.i64 (IntKind.i64.wrap (x4 + 1)))
                              (setF (0 + x20.toNat) (0 + 0) (T.int IntKind.i64 x4) fx2)))
                          (0 + x20.toNat) (4 + 0)).ln)
                    (setF (0 + x20.toNat) (2 + 1)
                      (T.int IntKind.i64 (IntKind.i64.wrap (IntKind.i64.wrap (IntKind.i64.wrap (x4 + 1) + 1) + 1)))
                      (setF (0 + x20.toNat) (2 + 0)
                        (T.int IntKind.i64 (IntKind.i64.wrap (IntKind.i64.wrap (x4 + 1) + 1)))
                        (setF (0 + x20.toNat) (0 + 1) (T.int IntKind.i64 (IntKind.i64.wrap (x4 + 1)))
                          (setF (0 + x20.toNat) (0 + 0) (T.int IntKind.i64 x4) fx2)))))))))
          (0 + x20.toNat) (9 + 0)).ln.beq
    ((T.arr 11 nx2
            (setF (0 + x20.toNat) 8
              (T.int IntKind.i64
                (IntKind.i64.wrap (IntKind.i64.wrap (IntKind.i64.wrap (f_ctHdS r1 + 1) + 1) + 1)))
              (setF (0 + x20.toNat) 7
                (T.bool ((IntKind.i64.wrap (IntKind.i64.wrap (f_ctHdS r1 + 1) + 1)).tmod 3 == 0))
                (setF (0 + x20.toNat) 6 (T.int IntKind.i64 (IntKind.i64.wrap (f_ctHdS r1 + 1)))
                  (setF (0 + x20.toNat) 5 (T.int IntKind.i64 (f_ctHdS r1))
                    (setF (0 + x20.toNat) (4 + 0) (T.arr 2 (f_mkHdS r1).length (atL Hd.cs (f_mkHdS r1)))
                      (setF (0 + x20.toNat) (4 + 0)
                        (T.lent 2
                          (setF (0 + x20.toNat) (2 + 1)
                              (T.int IntKind.i64
                                (IntKind.i64.wrap (IntKind.i64.wrap (IntKind.i64.wrap (x4 + 1) + 1) + 1)))
                              (setF (0 + x20.toNat) (2 + 0)
                                (T.int IntKind.i64 (IntKind.i64.wrap (IntKind.i64.wrap (x4 + 1) + 1)))
                                (setF (0 + x20.toNat) (0 + 1) (T.int IntKind.i64 (IntKind.i64.wrap (x4 + 1)))
                                  (setF (0 + x20.toNat) (0 + 0) (T.int IntKind.i64 x4) fx2)))
                              (0 + x20.toNat) (4 + 0)).ln)
                        (setF (0 + x20.toNat) (2 + 1)
                          (T.int IntKind.i64 (IntKind.i64.wrap (IntKind.i64.wrap (IntKind.i64.wrap (x4 + 1) + 1) + 1)))
                          (setF (0 + x20.toNat) (2 + 0)
                            (T.int IntKind.i64 (IntKind.i64.wrap (IntKind.i64.wrap (x4 + 1) + 1)))
                            (setF (0 + x20.toNat) (0 + 1) (T.int IntKind.i64 (IntKind.i64.wrap (x4 + 1)))
                              (setF (0 + x20.toNat) (0 + 0) (T.int IntKind.i64 x4) fx2))))))))))).get
        [0 + x20.toNat, 9 + 0]).ln &&
  Nat.beq 1
    ((T.arr 11 nx2
            (setF (0 + x20.toNat) 8
              (T.int IntKind.i64
                (IntKind.i64.wrap (IntKind.i64.wrap (IntKind.i64.wrap (f_ctHdS r1 + 1) + 1) + 1)))
              (setF (0 + x20.toNat) 7
                (T.bool ((IntKind.i64.wrap (IntKind.i64.wrap (f_ctHdS r1 + 1) + 1)).tmod 3 == 0))
                (setF (0 + x20.toNat) 6 (T.int IntKind.i64 (IntKind.i64.wrap (f_ctHdS r1 + 1)))
                  (setF (0 + x20.toNat) 5 (T.int IntKind.i64 (f_ctHdS r1))
                    (setF (0 + x20.toNat) (4 + 0) (T.arr 2 (f_mkHdS r1).length (atL Hd.cs (f_mkHdS r1)))
                      (setF (0 + x20.toNat) (4 + 0)
                        (T.lent 2
                          (setF (0 + x20.toNat) (2 + 1)
                              (T.int IntKind.i64
                                (IntKind.i64.wrap (IntKind.i64.wrap (IntKind.i64.wrap (x4 + 1) + 1) + 1)))
                              (setF (0 + x20.toNat) (2 + 0)
                                (T.int IntKind.i64 (IntKind.i64.wrap (IntKind.i64.wrap (x4 + 1) + 1)))
                                (setF (0 + x20.toNat) (0 + 1) (T.int IntKind.i64 (IntKind.i64.wrap (x4 + 1)))
                                  (setF (0 + x20.toNat) (0 + 0) (T.int IntKind.i64 x4) fx2)))
                              (0 + x20.toNat) (4 + 0)).ln)
                        (setF (0 + x20.toNat) (2 + 1)
                          (T.int IntKind.i64 (IntKind.i64.wrap (IntKind.i64.wrap (IntKind.i64.wrap (x4 + 1) + 1) + 1)))
                          (setF (0 + x20.toNat) (2 + 0)
                            (T.int IntKind.i64 (IntKind.i64.wrap (IntKind.i64.wrap (x4 + 1) + 1)))
                            (setF (0 + x20.toNat) (0 + 1) (T.int IntKind.i64 (IntKind.i64.wrap (x4 + 1)))
                              (setF (0 + x20.toNat) (0 + 0) (T.int IntKind.i64 x4) fx2))))))))))).get
        [0 + x20.toNat, 9 + 0]).wd) <|
  entK okh_SfS eam_SfS (fun x => x) [(1, false,
    [C.tr true
        (T.arr 1
          (setF (0 + x20.toNat) 8
              (T.int IntKind.i64
                (IntKind.i64.wrap (IntKind.i64.wrap (IntKind.i64.wrap (f_ctHdS r1 + 1) + 1) + 1)))
              (setF (0 + x20.toNat) 7
                (T.bool ((IntKind.i64.wrap (IntKind.i64.wrap (f_ctHdS r1 + 1) + 1)).tmod 3 == 0))
                (setF (0 + x20.toNat) 6 (T.int IntKind.i64 (IntKind.i64.wrap (f_ctHdS r1 + 1)))
                  (setF (0 + x20.toNat) 5 (T.int IntKind.i64 (f_ctHdS r1))
                    (setF (0 + x20.toNat) (4 + 0) (T.arr 2 (f_mkHdS r1).length (atL Hd.cs (f_mkHdS r1)))
                      (setF (0 + x20.toNat) (4 + 0)
                        (T.lent 2
                          (setF (0 + x20.toNat) (2 + 1)
                              (T.int IntKind.i64
                                (IntKind.i64.wrap (IntKind.i64.wrap (IntKind.i64.wrap (x4 + 1) + 1) + 1)))
                              (setF (0 + x20.toNat) (2 + 0)
                                (T.int IntKind.i64 (IntKind.i64.wrap (IntKind.i64.wrap (x4 + 1) + 1)))
                                (setF (0 + x20.toNat) (0 + 1) (T.int IntKind.i64 (IntKind.i64.wrap (x4 + 1)))
                                  (setF (0 + x20.toNat) (0 + 0) (T.int IntKind.i64 x4) fx2)))
                              (0 + x20.toNat) (4 + 0)).ln)
                        (setF (0 + x20.toNat) (2 + 1)
                          (T.int IntKind.i64 (IntKind.i64.wrap (IntKind.i64.wrap (IntKind.i64.wrap (x4 + 1) + 1) + 1)))
                          (setF (0 + x20.toNat) (2 + 0)
                            (T.int IntKind.i64 (IntKind.i64.wrap (IntKind.i64.wrap (x4 + 1) + 1)))
                            (setF (0 + x20.toNat) (0 + 1) (T.int IntKind.i64 (IntKind.i64.wrap (x4 + 1)))
                              (setF (0 + x20.toNat) (0 + 0) (T.int IntKind.i64 x4) fx2)))))))))
              (0 + x20.toNat) (9 + 0)).ln
          ((T.arr 11 nx2
                  (setF (0 + x20.toNat) 8
                    (T.int IntKind.i64
                      (IntKind.i64.wrap (IntKind.i64.wrap (IntKind.i64.wrap (f_ctHdS r1 + 1) + 1) + 1)))
                    (setF (0 + x20.toNat) 7
                      (T.bool ((IntKind.i64.wrap (IntKind.i64.wrap (f_ctHdS r1 + 1) + 1)).tmod 3 == 0))
                      (setF (0 + x20.toNat) 6 (T.int IntKind.i64 (IntKind.i64.wrap (f_ctHdS r1 + 1)))
                        (setF (0 + x20.toNat) 5 (T.int IntKind.i64 (f_ctHdS r1))
                          (setF (0 + x20.toNat) (4 + 0)
                            (T.arr 2 (f_mkHdS r1).length (atL Hd.cs (f_mkHdS r1)))
                            (setF (0 + x20.toNat) (4 + 0)
                              (T.lent 2
                                (setF (0 + x20.toNat) (2 + 1)
                                    (T.int IntKind.i64
                                      (IntKind.i64.wrap (IntKind.i64.wrap (IntKind.i64.wrap (x4 + 1) + 1) + 1)))
                                    (setF (0 + x20.toNat) (2 + 0)
                                      (T.int IntKind.i64 (IntKind.i64.wrap (IntKind.i64.wrap (x4 + 1) + 1)))
                                      (setF (0 + x20.toNat) (0 + 1) (T.int IntKind.i64 (IntKind.i64.wrap (x4 + 1)))
                                        (setF (0 + x20.toNat) (0 + 0) (T.int IntKind.i64 x4) fx2)))
                                    (0 + x20.toNat) (4 + 0)).ln)
                              (setF (0 + x20.toNat) (2 + 1)
                                (T.int IntKind.i64
                                  (IntKind.i64.wrap (IntKind.i64.wrap (IntKind.i64.wrap (x4 + 1) + 1) + 1)))
                                (setF (0 + x20.toNat) (2 + 0)
                                  (T.int IntKind.i64 (IntKind.i64.wrap (IntKind.i64.wrap (x4 + 1) + 1)))
                                  (setF (0 + x20.toNat) (0 + 1) (T.int IntKind.i64 (IntKind.i64.wrap (x4 + 1)))
                                    (setF (0 + x20.toNat) (0 + 0) (T.int IntKind.i64 x4) fx2))))))))))).get
              [0 + x20.toNat, 9 + 0]).fn)]),
  (0, false,
    [C.tr false
        (T.int IntKind.i64
          (IntKind.i64.wrap
            (IntKind.i64.wrap (IntKind.i64.wrap (IntKind.i64.wrap (f_ctHdS r1 + 1) + 1) + 1) + 1)))])] fun (r2 : List Sf × Int) =>
  gd ((setF (0 + x20.toNat) 8
          (T.int IntKind.i64 (IntKind.i64.wrap (IntKind.i64.wrap (IntKind.i64.wrap (f_ctHdS r1 + 1) + 1) + 1)))
          (setF (0 + x20.toNat) 7
            (T.bool ((IntKind.i64.wrap (IntKind.i64.wrap (f_ctHdS r1 + 1) + 1)).tmod 3 == 0))
            (setF (0 + x20.toNat) 6 (T.int IntKind.i64 (IntKind.i64.wrap (f_ctHdS r1 + 1)))
              (setF (0 + x20.toNat) 5 (T.int IntKind.i64 (f_ctHdS r1))
                (setF (0 + x20.toNat) (4 + 0) (T.arr 2 (f_mkHdS r1).length (atL Hd.cs (f_mkHdS r1)))
                  (setF (0 + x20.toNat) (4 + 0)
                    (T.lent 2
                      (setF (0 + x20.toNat) (2 + 1)
                          (T.int IntKind.i64 (IntKind.i64.wrap (IntKind.i64.wrap (IntKind.i64.wrap (x4 + 1) + 1) + 1)))
                          (setF (0 + x20.toNat) (2 + 0)
                            (T.int IntKind.i64 (IntKind.i64.wrap (IntKind.i64.wrap (x4 + 1) + 1)))
                            (setF (0 + x20.toNat) (0 + 1) (T.int IntKind.i64 (IntKind.i64.wrap (x4 + 1)))
                              (setF (0 + x20.toNat) (0 + 0) (T.int IntKind.i64 x4) fx2)))
                          (0 + x20.toNat) (4 + 0)).ln)
                    (setF (0 + x20.toNat) (2 + 1)
                      (T.int IntKind.i64 (IntKind.i64.wrap (IntKind.i64.wrap (IntKind.i64.wrap (x4 + 1) + 1) + 1)))
                      (setF (0 + x20.toNat) (2 + 0)
                        (T.int IntKind.i64 (IntKind.i64.wrap (IntKind.i64.wrap (x4 + 1) + 1)))
                        (setF (0 + x20.toNat) (0 + 1) (T.int IntKind.i64 (IntKind.i64.wrap (x4 + 1)))
                          (setF (0 + x20.toNat) (0 + 0) (T.int IntKind.i64 x4) fx2)))))))))
          (0 + x20.toNat) (9 + 0)).ln.beq
    (f_mkSfS r2).length &&
  ((0 + x20.toNat).blt nx2 && true && true)) <|
  gd (decide (0 ≤ x20) && (x20.toNat.blt l.length && true)) <|
  gd ((0 + x20.toNat).blt nx2 && true &&
  ((setF (0 + x20.toNat) (9 + 0) (T.arr 1 (f_mkSfS r2).length (atL Sf.cs (f_mkSfS r2)))
        (setF (0 + x20.toNat) (9 + 0)
          (T.lent 1
            (setF (0 + x20.toNat) 8
                (T.int IntKind.i64
                  (IntKind.i64.wrap (IntKind.i64.wrap (IntKind.i64.wrap (f_ctHdS r1 + 1) + 1) + 1)))
                (setF (0 + x20.toNat) 7
                  (T.bool ((IntKind.i64.wrap (IntKind.i64.wrap (f_ctHdS r1 + 1) + 1)).tmod 3 == 0))
                  (setF (0 + x20.toNat) 6 (T.int IntKind.i64 (IntKind.i64.wrap (f_ctHdS r1 + 1)))
                    (setF (0 + x20.toNat) 5 (T.int IntKind.i64 (f_ctHdS r1))
                      (setF (0 + x20.toNat) (4 + 0) (T.arr 2 (f_mkHdS r1).length (atL Hd.cs (f_mkHdS r1)))
                        (setF (0 + x20.toNat) (4 + 0)
                          (T.lent 2
                            (setF (0 + x20.toNat) (2 + 1)
                                (T.int IntKind.i64
                                  (IntKind.i64.wrap (IntKind.i64.wrap (IntKind.i64.wrap (x4 + 1) + 1) + 1)))
                                (setF (0 + x20.toNat) (2 + 0)
                                  (T.int IntKind.i64 (IntKind.i64.wrap (IntKind.i64.wrap (x4 + 1) + 1)))
                                  (setF (0 + x20.toNat) (0 + 1) (T.int IntKind.i64 (IntKind.i64.wrap (x4 + 1)))
                                    (setF (0 + x20.toNat) (0 + 0) (T.int IntKind.i64 x4) fx2)))
                                (0 + x20.toNat) (4 + 0)).ln)
                          (setF (0 + x20.toNat) (2 + 1)
                            (T.int IntKind.i64
                              (IntKind.i64.wrap (IntKind.i64.wrap (IntKind.i64.wrap (x4 + 1) + 1) + 1)))
                            (setF (0 + x20.toNat) (2 + 0)
                              (T.int IntKind.i64 (IntKind.i64.wrap (IntKind.i64.wrap (x4 + 1) + 1)))
                              (setF (0 + x20.toNat) (0 + 1) (T.int IntKind.i64 (IntKind.i64.wrap (x4 + 1)))
                                (setF (0 + x20.toNat) (0 + 0) (T.int IntKind.i64 x4) fx2)))))))))
                (0 + x20.toNat) (9 + 0)).ln)
          (setF (0 + x20.toNat) 8
            (T.int IntKind.i64 (IntKind.i64.wrap (IntKind.i64.wrap (IntKind.i64.wrap (f_ctHdS r1 + 1) + 1) + 1)))
            (setF (0 + x20.toNat) 7
              (T.bool ((IntKind.i64.wrap (IntKind.i64.wrap (f_ctHdS r1 + 1) + 1)).tmod 3 == 0))
              (setF (0 + x20.toNat) 6 (T.int IntKind.i64 (IntKind.i64.wrap (f_ctHdS r1 + 1)))
                (setF (0 + x20.toNat) 5 (T.int IntKind.i64 (f_ctHdS r1))
                  (setF (0 + x20.toNat) (4 + 0) (T.arr 2 (f_mkHdS r1).length (atL Hd.cs (f_mkHdS r1)))
                    (setF (0 + x20.toNat) (4 + 0)
                      (T.lent 2
                        (setF (0 + x20.toNat) (2 + 1)
                            (T.int IntKind.i64
                              (IntKind.i64.wrap (IntKind.i64.wrap (IntKind.i64.wrap (x4 + 1) + 1) + 1)))
                            (setF (0 + x20.toNat) (2 + 0)
                              (T.int IntKind.i64 (IntKind.i64.wrap (IntKind.i64.wrap (x4 + 1) + 1)))
                              (setF (0 + x20.toNat) (0 + 1) (T.int IntKind.i64 (IntKind.i64.wrap (x4 + 1)))
                                (setF (0 + x20.toNat) (0 + 0) (T.int IntKind.i64 x4) fx2)))
                            (0 + x20.toNat) (4 + 0)).ln)
                      (setF (0 + x20.toNat) (2 + 1)
                        (T.int IntKind.i64 (IntKind.i64.wrap (IntKind.i64.wrap (IntKind.i64.wrap (x4 + 1) + 1) + 1)))
                        (setF (0 + x20.toNat) (2 + 0)
                          (T.int IntKind.i64 (IntKind.i64.wrap (IntKind.i64.wrap (x4 + 1) + 1)))
                          (setF (0 + x20.toNat) (0 + 1) (T.int IntKind.i64 (IntKind.i64.wrap (x4 + 1)))
                            (setF (0 + x20.toNat) (0 + 0) (T.int IntKind.i64 x4) fx2)))))))))))
        (0 + x20.toNat) (10 + 0)).isArr &&
    (setF (0 + x20.toNat) (9 + 0) (T.arr 1 (f_mkSfS r2).length (atL Sf.cs (f_mkSfS r2)))
            (setF (0 + x20.toNat) (9 + 0)
              (T.lent 1
                (setF (0 + x20.toNat) 8
                    (T.int IntKind.i64
                      (IntKind.i64.wrap (IntKind.i64.wrap (IntKind.i64.wrap (f_ctHdS r1 + 1) + 1) + 1)))
                    (setF (0 + x20.toNat) 7
                      (T.bool ((IntKind.i64.wrap (IntKind.i64.wrap (f_ctHdS r1 + 1) + 1)).tmod 3 == 0))
                      (setF (0 + x20.toNat) 6 (T.int IntKind.i64 (IntKind.i64.wrap (f_ctHdS r1 + 1)))
                        (setF (0 + x20.toNat) 5 (T.int IntKind.i64 (f_ctHdS r1))
                          (setF (0 + x20.toNat) (4 + 0)
                            (T.arr 2 (f_mkHdS r1).length (atL Hd.cs (f_mkHdS r1)))
                            (setF (0 + x20.toNat) (4 + 0)
                              (T.lent 2
                                (setF (0 + x20.toNat) (2 + 1)
                                    (T.int IntKind.i64
                                      (IntKind.i64.wrap (IntKind.i64.wrap (IntKind.i64.wrap (x4 + 1) + 1) + 1)))
                                    (setF (0 + x20.toNat) (2 + 0)
                                      (T.int IntKind.i64 (IntKind.i64.wrap (IntKind.i64.wrap (x4 + 1) + 1)))
                                      (setF (0 + x20.toNat) (0 + 1) (T.int IntKind.i64 (IntKind.i64.wrap (x4 + 1)))
                                        (setF (0 + x20.toNat) (0 + 0) (T.int IntKind.i64 x4) fx2)))
                                    (0 + x20.toNat) (4 + 0)).ln)
                              (setF (0 + x20.toNat) (2 + 1)
                                (T.int IntKind.i64
                                  (IntKind.i64.wrap (IntKind.i64.wrap (IntKind.i64.wrap (x4 + 1) + 1) + 1)))
                                (setF (0 + x20.toNat) (2 + 0)
                                  (T.int IntKind.i64 (IntKind.i64.wrap (IntKind.i64.wrap (x4 + 1) + 1)))
                                  (setF (0 + x20.toNat) (0 + 1) (T.int IntKind.i64 (IntKind.i64.wrap (x4 + 1)))
                                    (setF (0 + x20.toNat) (0 + 0) (T.int IntKind.i64 x4) fx2)))))))))
                    (0 + x20.toNat) (9 + 0)).ln)
              (setF (0 + x20.toNat) 8
                (T.int IntKind.i64
                  (IntKind.i64.wrap (IntKind.i64.wrap (IntKind.i64.wrap (f_ctHdS r1 + 1) + 1) + 1)))
                (setF (0 + x20.toNat) 7
                  (T.bool ((IntKind.i64.wrap (IntKind.i64.wrap (f_ctHdS r1 + 1) + 1)).tmod 3 == 0))
                  (setF (0 + x20.toNat) 6 (T.int IntKind.i64 (IntKind.i64.wrap (f_ctHdS r1 + 1)))
                    (setF (0 + x20.toNat) 5 (T.int IntKind.i64 (f_ctHdS r1))
                      (setF (0 + x20.toNat) (4 + 0) (T.arr 2 (f_mkHdS r1).length (atL Hd.cs (f_mkHdS r1)))
                        (setF (0 + x20.toNat) (4 + 0)
                          (T.lent 2
                            (setF (0 + x20.toNat) (2 + 1)
                                (T.int IntKind.i64
                                  (IntKind.i64.wrap (IntKind.i64.wrap (IntKind.i64.wrap (x4 + 1) + 1) + 1)))
                                (setF (0 + x20.toNat) (2 + 0)
                                  (T.int IntKind.i64 (IntKind.i64.wrap (IntKind.i64.wrap (x4 + 1) + 1)))
                                  (setF (0 + x20.toNat) (0 + 1) (T.int IntKind.i64 (IntKind.i64.wrap (x4 + 1)))
                                    (setF (0 + x20.toNat) (0 + 0) (T.int IntKind.i64 x4) fx2)))
                                (0 + x20.toNat) (4 + 0)).ln)
                          (setF (0 + x20.toNat) (2 + 1)
                            (T.int IntKind.i64
                              (IntKind.i64.wrap (IntKind.i64.wrap (IntKind.i64.wrap (x4 + 1) + 1) + 1)))
                            (setF (0 + x20.toNat) (2 + 0)
                              (T.int IntKind.i64 (IntKind.i64.wrap (IntKind.i64.wrap (x4 + 1) + 1)))
                              (setF (0 + x20.toNat) (0 + 1) (T.int IntKind.i64 (IntKind.i64.wrap (x4 + 1)))
                                (setF (0 + x20.toNat) (0 + 0) (T.int IntKind.i64 x4) fx2)))))))))))
            (0 + x20.toNat) (10 + 0)).wd.beq
      1)) <|
  gd ((0 + x20.toNat).blt nx2 && true && true &&
  ((T.arr 11 nx2
          (setF (0 + x20.toNat) (9 + 0) (T.arr 1 (f_mkSfS r2).length (atL Sf.cs (f_mkSfS r2)))
            (setF (0 + x20.toNat) (9 + 0)
              (T.lent 1
                (setF (0 + x20.toNat) 8
                    (T.int IntKind.i64
                      (IntKind.i64.wrap (IntKind.i64.wrap (IntKind.i64.wrap (f_ctHdS r1 + 1) + 1) + 1)))
                    (setF (0 + x20.toNat) 7
                      (T.bool ((IntKind.i64.wrap (IntKind.i64.wrap (f_ctHdS r1 + 1) + 1)).tmod 3 == 0))
                      (setF (0 + x20.toNat) 6 (T.int IntKind.i64 (IntKind.i64.wrap (f_ctHdS r1 + 1)))
                        (setF (0 + x20.toNat) 5 (T.int IntKind.i64 (f_ctHdS r1))
                          (setF (0 + x20.toNat) (4 + 0)
                            (T.arr 2 (f_mkHdS r1).length (atL Hd.cs (f_mkHdS r1)))
                            (setF (0 + x20.toNat) (4 + 0)
                              (T.lent 2
                                (setF (0 + x20.toNat) (2 + 1)
                                    (T.int IntKind.i64
                                      (IntKind.i64.wrap (IntKind.i64.wrap (IntKind.i64.wrap (x4 + 1) + 1) + 1)))
                                    (setF (0 + x20.toNat) (2 + 0)
                                      (T.int IntKind.i64 (IntKind.i64.wrap (IntKind.i64.wrap (x4 + 1) + 1)))
                                      (setF (0 + x20.toNat) (0 + 1) (T.int IntKind.i64 (IntKind.i64.wrap (x4 + 1)))
                                        (setF (0 + x20.toNat) (0 + 0) (T.int IntKind.i64 x4) fx2)))
                                    (0 + x20.toNat) (4 + 0)).ln)
                              (setF (0 + x20.toNat) (2 + 1)
                                (T.int IntKind.i64
                                  (IntKind.i64.wrap (IntKind.i64.wrap (IntKind.i64.wrap (x4 + 1) + 1) + 1)))
                                (setF (0 + x20.toNat) (2 + 0)
                                  (T.int IntKind.i64 (IntKind.i64.wrap (IntKind.i64.wrap (x4 + 1) + 1)))
                                  (setF (0 + x20.toNat) (0 + 1) (T.int IntKind.i64 (IntKind.i64.wrap (x4 + 1)))
                                    (setF (0 + x20.toNat) (0 + 0) (T.int IntKind.i64 x4) fx2)))))))))
                    (0 + x20.toNat) (9 + 0)).ln)
              (setF (0 + x20.toNat) 8
                (T.int IntKind.i64
                  (IntKind.i64.wrap (IntKind.i64.wrap (IntKind.i64.wrap (f_ctHdS r1 + 1) + 1) + 1)))
                (setF (0 + x20.toNat) 7
                  (T.bool ((IntKind.i64.wrap (IntKind.i64.wrap (f_ctHdS r1 + 1) + 1)).tmod 3 == 0))
                  (setF (0 + x20.toNat) 6 (T.int IntKind.i64 (IntKind.i64.wrap (f_ctHdS r1 + 1)))
                    (setF (0 + x20.toNat) 5 (T.int IntKind.i64 (f_ctHdS r1))
                      (setF (0 + x20.toNat) (4 + 0) (T.arr 2 (f_mkHdS r1).length (atL Hd.cs (f_mkHdS r1)))
                        (setF (0 + x20.toNat) (4 + 0)
                          (T.lent 2
                            (setF (0 + x20.toNat) (2 + 1)
                                (T.int IntKind.i64
                                  (IntKind.i64.wrap (IntKind.i64.wrap (IntKind.i64.wrap (x4 + 1) + 1) + 1)))
                                (setF (0 + x20.toNat) (2 + 0)
                                  (T.int IntKind.i64 (IntKind.i64.wrap (IntKind.i64.wrap (x4 + 1) + 1)))
                                  (setF (0 + x20.toNat) (0 + 1) (T.int IntKind.i64 (IntKind.i64.wrap (x4 + 1)))
                                    (setF (0 + x20.toNat) (0 + 0) (T.int IntKind.i64 x4) fx2)))
                                (0 + x20.toNat) (4 + 0)).ln)
                          (setF (0 + x20.toNat) (2 + 1)
                            (T.int IntKind.i64
                              (IntKind.i64.wrap (IntKind.i64.wrap (IntKind.i64.wrap (x4 + 1) + 1) + 1)))
                            (setF (0 + x20.toNat) (2 + 0)
                              (T.int IntKind.i64 (IntKind.i64.wrap (IntKind.i64.wrap (x4 + 1) + 1)))
                              (setF (0 + x20.toNat) (0 + 1) (T.int IntKind.i64 (IntKind.i64.wrap (x4 + 1)))
                                (setF (0 + x20.toNat) (0 + 0) (T.int IntKind.i64 x4) fx2))))))))))))).get
      [0 + x20.toNat, 10 + 0]).isArr) <|
  gd ((setF (0 + x20.toNat) (9 + 0) (T.arr 1 (f_mkSfS r2).length (atL Sf.cs (f_mkSfS r2)))
          (setF (0 + x20.toNat) (9 + 0)
            (T.lent 1
              (setF (0 + x20.toNat) 8
                  (T.int IntKind.i64
                    (IntKind.i64.wrap (IntKind.i64.wrap (IntKind.i64.wrap (f_ctHdS r1 + 1) + 1) + 1)))
                  (setF (0 + x20.toNat) 7
                    (T.bool ((IntKind.i64.wrap (IntKind.i64.wrap (f_ctHdS r1 + 1) + 1)).tmod 3 == 0))
                    (setF (0 + x20.toNat) 6 (T.int IntKind.i64 (IntKind.i64.wrap (f_ctHdS r1 + 1)))
                      (setF (0 + x20.toNat) 5 (T.int IntKind.i64 (f_ctHdS r1))
                        (setF (0 + x20.toNat) (4 + 0)
                          (T.arr 2 (f_mkHdS r1).length (atL Hd.cs (f_mkHdS r1)))
                          (setF (0 + x20.toNat) (4 + 0)
                            (T.lent 2
                              (setF (0 + x20.toNat) (2 + 1)
                                  (T.int IntKind.i64
                                    (IntKind.i64.wrap (IntKind.i64.wrap (IntKind.i64.wrap (x4 + 1) + 1) + 1)))
                                  (setF (0 + x20.toNat) (2 + 0)
                                    (T.int IntKind.i64 (IntKind.i64.wrap (IntKind.i64.wrap (x4 + 1) + 1)))
                                    (setF (0 + x20.toNat) (0 + 1) (T.int IntKind.i64 (IntKind.i64.wrap (x4 + 1)))
                                      (setF (0 + x20.toNat) (0 + 0) (T.int IntKind.i64 x4) fx2)))
                                  (0 + x20.toNat) (4 + 0)).ln)
                            (setF (0 + x20.toNat) (2 + 1)
                              (T.int IntKind.i64
                                (IntKind.i64.wrap (IntKind.i64.wrap (IntKind.i64.wrap (x4 + 1) + 1) + 1)))
                              (setF (0 + x20.toNat) (2 + 0)
                                (T.int IntKind.i64 (IntKind.i64.wrap (IntKind.i64.wrap (x4 + 1) + 1)))
                                (setF (0 + x20.toNat) (0 + 1) (T.int IntKind.i64 (IntKind.i64.wrap (x4 + 1)))
                                  (setF (0 + x20.toNat) (0 + 0) (T.int IntKind.i64 x4) fx2)))))))))
                  (0 + x20.toNat) (9 + 0)).ln)
            (setF (0 + x20.toNat) 8
              (T.int IntKind.i64
                (IntKind.i64.wrap (IntKind.i64.wrap (IntKind.i64.wrap (f_ctHdS r1 + 1) + 1) + 1)))
              (setF (0 + x20.toNat) 7
                (T.bool ((IntKind.i64.wrap (IntKind.i64.wrap (f_ctHdS r1 + 1) + 1)).tmod 3 == 0))
                (setF (0 + x20.toNat) 6 (T.int IntKind.i64 (IntKind.i64.wrap (f_ctHdS r1 + 1)))
                  (setF (0 + x20.toNat) 5 (T.int IntKind.i64 (f_ctHdS r1))
                    (setF (0 + x20.toNat) (4 + 0) (T.arr 2 (f_mkHdS r1).length (atL Hd.cs (f_mkHdS r1)))
                      (setF (0 + x20.toNat) (4 + 0)
                        (T.lent 2
                          (setF (0 + x20.toNat) (2 + 1)
                              (T.int IntKind.i64
                                (IntKind.i64.wrap (IntKind.i64.wrap (IntKind.i64.wrap (x4 + 1) + 1) + 1)))
                              (setF (0 + x20.toNat) (2 + 0)
                                (T.int IntKind.i64 (IntKind.i64.wrap (IntKind.i64.wrap (x4 + 1) + 1)))
                                (setF (0 + x20.toNat) (0 + 1) (T.int IntKind.i64 (IntKind.i64.wrap (x4 + 1)))
                                  (setF (0 + x20.toNat) (0 + 0) (T.int IntKind.i64 x4) fx2)))
                              (0 + x20.toNat) (4 + 0)).ln)
                        (setF (0 + x20.toNat) (2 + 1)
                          (T.int IntKind.i64 (IntKind.i64.wrap (IntKind.i64.wrap (IntKind.i64.wrap (x4 + 1) + 1) + 1)))
                          (setF (0 + x20.toNat) (2 + 0)
                            (T.int IntKind.i64 (IntKind.i64.wrap (IntKind.i64.wrap (x4 + 1) + 1)))
                            (setF (0 + x20.toNat) (0 + 1) (T.int IntKind.i64 (IntKind.i64.wrap (x4 + 1)))
                              (setF (0 + x20.toNat) (0 + 0) (T.int IntKind.i64 x4) fx2)))))))))))
          (0 + x20.toNat) (10 + 0)).ln.beq
    ((T.arr 11 nx2
            (setF (0 + x20.toNat) (9 + 0) (T.arr 1 (f_mkSfS r2).length (atL Sf.cs (f_mkSfS r2)))
              (setF (0 + x20.toNat) (9 + 0)
                (T.lent 1
                  (setF (0 + x20.toNat) 8
                      (T.int IntKind.i64
                        (IntKind.i64.wrap (IntKind.i64.wrap (IntKind.i64.wrap (f_ctHdS r1 + 1) + 1) + 1)))
                      (setF (0 + x20.toNat) 7
                        (T.bool ((IntKind.i64.wrap (IntKind.i64.wrap (f_ctHdS r1 + 1) + 1)).tmod 3 == 0))
                        (setF (0 + x20.toNat) 6 (T.int IntKind.i64 (IntKind.i64.wrap (f_ctHdS r1 + 1)))
                          (setF (0 + x20.toNat) 5 (T.int IntKind.i64 (f_ctHdS r1))
                            (setF (0 + x20.toNat) (4 + 0)
                              (T.arr 2 (f_mkHdS r1).length (atL Hd.cs (f_mkHdS r1)))
                              (setF (0 + x20.toNat) (4 + 0)
                                (T.lent 2
                                  (setF (0 + x20.toNat) (2 + 1)
                                      (T.int IntKind.i64
                                        (IntKind.i64.wrap (IntKind.i64.wrap (IntKind.i64.wrap (x4 + 1) + 1) + 1)))
                                      (setF (0 + x20.toNat) (2 + 0)
                                        (T.int IntKind.i64 (IntKind.i64.wrap (IntKind.i64.wrap (x4 + 1) + 1)))
                                        (setF (0 + x20.toNat) (0 + 1) (T.int IntKind.i64 (IntKind.i64.wrap (x4 + 1)))
                                          (setF (0 + x20.toNat) (0 + 0) (T.int IntKind.i64 x4) fx2)))
                                      (0 + x20.toNat) (4 + 0)).ln)
                                (setF (0 + x20.toNat) (2 + 1)
                                  (T.int IntKind.i64
                                    (IntKind.i64.wrap (IntKind.i64.wrap (IntKind.i64.wrap (x4 + 1) + 1) + 1)))
                                  (setF (0 + x20.toNat) (2 + 0)
                                    (T.int IntKind.i64 (IntKind.i64.wrap (IntKind.i64.wrap (x4 + 1) + 1)))
                                    (setF (0 + x20.toNat) (0 + 1) (T.int IntKind.i64 (IntKind.i64.wrap (x4 + 1)))
                                      (setF (0 + x20.toNat) (0 + 0) (T.int IntKind.i64 x4) fx2)))))))))
                      (0 + x20.toNat) (9 + 0)).ln)
                (setF (0 + x20.toNat) 8
                  (T.int IntKind.i64
                    (IntKind.i64.wrap (IntKind.i64.wrap (IntKind.i64.wrap (f_ctHdS r1 + 1) + 1) + 1)))
                  (setF (0 + x20.toNat) 7
                    (T.bool ((IntKind.i64.wrap (IntKind.i64.wrap (f_ctHdS r1 + 1) + 1)).tmod 3 == 0))
                    (setF (0 + x20.toNat) 6 (T.int IntKind.i64 (IntKind.i64.wrap (f_ctHdS r1 + 1)))
                      (setF (0 + x20.toNat) 5 (T.int IntKind.i64 (f_ctHdS r1))
                        (setF (0 + x20.toNat) (4 + 0)
                          (T.arr 2 (f_mkHdS r1).length (atL Hd.cs (f_mkHdS r1)))
                          (setF (0 + x20.toNat) (4 + 0)
                            (T.lent 2
                              (setF (0 + x20.toNat) (2 + 1)
                                  (T.int IntKind.i64
                                    (IntKind.i64.wrap (IntKind.i64.wrap (IntKind.i64.wrap (x4 + 1) + 1) + 1)))
                                  (setF (0 + x20.toNat) (2 + 0)
                                    (T.int IntKind.i64 (IntKind.i64.wrap (IntKind.i64.wrap (x4 + 1) + 1)))
                                    (setF (0 + x20.toNat) (0 + 1) (T.int IntKind.i64 (IntKind.i64.wrap (x4 + 1)))
                                      (setF (0 + x20.toNat) (0 + 0) (T.int IntKind.i64 x4) fx2)))
                                  (0 + x20.toNat) (4 + 0)).ln)
                            (setF (0 + x20.toNat) (2 + 1)
                              (T.int IntKind.i64
                                (IntKind.i64.wrap (IntKind.i64.wrap (IntKind.i64.wrap (x4 + 1) + 1) + 1)))
                              (setF (0 + x20.toNat) (2 + 0)
                                (T.int IntKind.i64 (IntKind.i64.wrap (IntKind.i64.wrap (x4 + 1) + 1)))
                                (setF (0 + x20.toNat) (0 + 1) (T.int IntKind.i64 (IntKind.i64.wrap (x4 + 1)))
                                  (setF (0 + x20.toNat) (0 + 0) (T.int IntKind.i64 x4) fx2))))))))))))).get
        [0 + x20.toNat, 10 + 0]).ln &&
  Nat.beq 1
    ((T.arr 11 nx2
            (setF (0 + x20.toNat) (9 + 0) (T.arr 1 (f_mkSfS r2).length (atL Sf.cs (f_mkSfS r2)))
              (setF (0 + x20.toNat) (9 + 0)
                (T.lent 1
                  (setF (0 + x20.toNat) 8
                      (T.int IntKind.i64
                        (IntKind.i64.wrap (IntKind.i64.wrap (IntKind.i64.wrap (f_ctHdS r1 + 1) + 1) + 1)))
                      (setF (0 + x20.toNat) 7
                        (T.bool ((IntKind.i64.wrap (IntKind.i64.wrap (f_ctHdS r1 + 1) + 1)).tmod 3 == 0))
                        (setF (0 + x20.toNat) 6 (T.int IntKind.i64 (IntKind.i64.wrap (f_ctHdS r1 + 1)))
                          (setF (0 + x20.toNat) 5 (T.int IntKind.i64 (f_ctHdS r1))
                            (setF (0 + x20.toNat) (4 + 0)
                              (T.arr 2 (f_mkHdS r1).length (atL Hd.cs (f_mkHdS r1)))
                              (setF (0 + x20.toNat) (4 + 0)
                                (T.lent 2
                                  (setF (0 + x20.toNat) (2 + 1)
                                      (T.int IntKind.i64
                                        (IntKind.i64.wrap (IntKind.i64.wrap (IntKind.i64.wrap (x4 + 1) + 1) + 1)))
                                      (setF (0 + x20.toNat) (2 + 0)
                                        (T.int IntKind.i64 (IntKind.i64.wrap (IntKind.i64.wrap (x4 + 1) + 1)))
                                        (setF (0 + x20.toNat) (0 + 1) (T.int IntKind.i64 (IntKind.i64.wrap (x4 + 1)))
                                          (setF (0 + x20.toNat) (0 + 0) (T.int IntKind.i64 x4) fx2)))
                                      (0 + x20.toNat) (4 + 0)).ln)
                                (setF (0 + x20.toNat) (2 + 1)
                                  (T.int IntKind.i64
                                    (IntKind.i64.wrap (IntKind.i64.wrap (IntKind.i64.wrap (x4 + 1) + 1) + 1)))
                                  (setF (0 + x20.toNat) (2 + 0)
                                    (T.int IntKind.i64 (IntKind.i64.wrap (IntKind.i64.wrap (x4 + 1) + 1)))
                                    (setF (0 + x20.toNat) (0 + 1) (T.int IntKind.i64 (IntKind.i64.wrap (x4 + 1)))
                                      (setF (0 + x20.toNat) (0 + 0) (T.int IntKind.i64 x4) fx2)))))))))
                      (0 + x20.toNat) (9 + 0)).ln)
                (setF (0 + x20.toNat) 8
                  (T.int IntKind.i64
                    (IntKind.i64.wrap (IntKind.i64.wrap (IntKind.i64.wrap (f_ctHdS r1 + 1) + 1) + 1)))
                  (setF (0 + x20.toNat) 7
                    (T.bool ((IntKind.i64.wrap (IntKind.i64.wrap (f_ctHdS r1 + 1) + 1)).tmod 3 == 0))
                    (setF (0 + x20.toNat) 6 (T.int IntKind.i64 (IntKind.i64.wrap (f_ctHdS r1 + 1)))
                      (setF (0 + x20.toNat) 5 (T.int IntKind.i64 (f_ctHdS r1))
                        (setF (0 + x20.toNat) (4 + 0)
                          (T.arr 2 (f_mkHdS r1).length (atL Hd.cs (f_mkHdS r1)))
                          (setF (0 + x20.toNat) (4 + 0)
                            (T.lent 2
                              (setF (0 + x20.toNat) (2 + 1)
                                  (T.int IntKind.i64
                                    (IntKind.i64.wrap (IntKind.i64.wrap (IntKind.i64.wrap (x4 + 1) + 1) + 1)))
                                  (setF (0 + x20.toNat) (2 + 0)
                                    (T.int IntKind.i64 (IntKind.i64.wrap (IntKind.i64.wrap (x4 + 1) + 1)))
                                    (setF (0 + x20.toNat) (0 + 1) (T.int IntKind.i64 (IntKind.i64.wrap (x4 + 1)))
                                      (setF (0 + x20.toNat) (0 + 0) (T.int IntKind.i64 x4) fx2)))
                                  (0 + x20.toNat) (4 + 0)).ln)
                            (setF (0 + x20.toNat) (2 + 1)
                              (T.int IntKind.i64
                                (IntKind.i64.wrap (IntKind.i64.wrap (IntKind.i64.wrap (x4 + 1) + 1) + 1)))
                              (setF (0 + x20.toNat) (2 + 0)
                                (T.int IntKind.i64 (IntKind.i64.wrap (IntKind.i64.wrap (x4 + 1) + 1)))
                                (setF (0 + x20.toNat) (0 + 1) (T.int IntKind.i64 (IntKind.i64.wrap (x4 + 1)))
                                  (setF (0 + x20.toNat) (0 + 0) (T.int IntKind.i64 x4) fx2))))))))))))).get
        [0 + x20.toNat, 10 + 0]).wd) <|
  entK okh_LI eam_LI (fun x => x) [(1, false,
    [C.tr true
        (T.arr 1
          (setF (0 + x20.toNat) (9 + 0) (T.arr 1 (f_mkSfS r2).length (atL Sf.cs (f_mkSfS r2)))
              (setF (0 + x20.toNat) (9 + 0)
                (T.lent 1
                  (setF (0 + x20.toNat) 8
                      (T.int IntKind.i64
                        (IntKind.i64.wrap (IntKind.i64.wrap (IntKind.i64.wrap (f_ctHdS r1 + 1) + 1) + 1)))
                      (setF (0 + x20.toNat) 7
                        (T.bool ((IntKind.i64.wrap (IntKind.i64.wrap (f_ctHdS r1 + 1) + 1)).tmod 3 == 0))
                        (setF (0 + x20.toNat) 6 (T.int IntKind.i64 (IntKind.i64.wrap (f_ctHdS r1 + 1)))
                          (setF (0 + x20.toNat) 5 (T.int IntKind.i64 (f_ctHdS r1))
                            (setF (0 + x20.toNat) (4 + 0)
                              (T.arr 2 (f_mkHdS r1).length (atL Hd.cs (f_mkHdS r1)))
                              (setF (0 + x20.toNat) (4 + 0)
                                (T.lent 2
                                  (setF (0 + x20.toNat) (2 + 1)
                                      (T.int IntKind.i64
                                        (IntKind.i64.wrap (IntKind.i64.wrap (IntKind.i64.wrap (x4 + 1) + 1) + 1)))
                                      (setF (0 + x20.toNat) (2 + 0)
                                        (T.int IntKind.i64 (IntKind.i64.wrap (IntKind.i64.wrap (x4 + 1) + 1)))
                                        (setF (0 + x20.toNat) (0 + 1) (T.int IntKind.i64 (IntKind.i64.wrap (x4 + 1)))
                                          (setF (0 + x20.toNat) (0 + 0) (T.int IntKind.i64 x4) fx2)))
                                      (0 + x20.toNat) (4 + 0)).ln)
                                (setF (0 + x20.toNat) (2 + 1)
                                  (T.int IntKind.i64
                                    (IntKind.i64.wrap (IntKind.i64.wrap (IntKind.i64.wrap (x4 + 1) + 1) + 1)))
                                  (setF (0 + x20.toNat) (2 + 0)
                                    (T.int IntKind.i64 (IntKind.i64.wrap (IntKind.i64.wrap (x4 + 1) + 1)))
                                    (setF (0 + x20.toNat) (0 + 1) (T.int IntKind.i64 (IntKind.i64.wrap (x4 + 1)))
                                      (setF (0 + x20.toNat) (0 + 0) (T.int IntKind.i64 x4) fx2)))))))))
                      (0 + x20.toNat) (9 + 0)).ln)
                (setF (0 + x20.toNat) 8
                  (T.int IntKind.i64
                    (IntKind.i64.wrap (IntKind.i64.wrap (IntKind.i64.wrap (f_ctHdS r1 + 1) + 1) + 1)))
                  (setF (0 + x20.toNat) 7
                    (T.bool ((IntKind.i64.wrap (IntKind.i64.wrap (f_ctHdS r1 + 1) + 1)).tmod 3 == 0))
                    (setF (0 + x20.toNat) 6 (T.int IntKind.i64 (IntKind.i64.wrap (f_ctHdS r1 + 1)))
                      (setF (0 + x20.toNat) 5 (T.int IntKind.i64 (f_ctHdS r1))
                        (setF (0 + x20.toNat) (4 + 0)
                          (T.arr 2 (f_mkHdS r1).length (atL Hd.cs (f_mkHdS r1)))
                          (setF (0 + x20.toNat) (4 + 0)
                            (T.lent 2
                              (setF (0 + x20.toNat) (2 + 1)
                                  (T.int IntKind.i64
                                    (IntKind.i64.wrap (IntKind.i64.wrap (IntKind.i64.wrap (x4 + 1) + 1) + 1)))
                                  (setF (0 + x20.toNat) (2 + 0)
                                    (T.int IntKind.i64 (IntKind.i64.wrap (IntKind.i64.wrap (x4 + 1) + 1)))
                                    (setF (0 + x20.toNat) (0 + 1) (T.int IntKind.i64 (IntKind.i64.wrap (x4 + 1)))
                                      (setF (0 + x20.toNat) (0 + 0) (T.int IntKind.i64 x4) fx2)))
                                  (0 + x20.toNat) (4 + 0)).ln)
                            (setF (0 + x20.toNat) (2 + 1)
                              (T.int IntKind.i64
                                (IntKind.i64.wrap (IntKind.i64.wrap (IntKind.i64.wrap (x4 + 1) + 1) + 1)))
                              (setF (0 + x20.toNat) (2 + 0)
                                (T.int IntKind.i64 (IntKind.i64.wrap (IntKind.i64.wrap (x4 + 1) + 1)))
                                (setF (0 + x20.toNat) (0 + 1) (T.int IntKind.i64 (IntKind.i64.wrap (x4 + 1)))
                                  (setF (0 + x20.toNat) (0 + 0) (T.int IntKind.i64 x4) fx2)))))))))))
              (0 + x20.toNat) (10 + 0)).ln
          ((T.arr 11 nx2
                  (setF (0 + x20.toNat) (9 + 0) (T.arr 1 (f_mkSfS r2).length (atL Sf.cs (f_mkSfS r2)))
                    (setF (0 + x20.toNat) (9 + 0)
                      (T.lent 1
                        (setF (0 + x20.toNat) 8
                            (T.int IntKind.i64
                              (IntKind.i64.wrap (IntKind.i64.wrap (IntKind.i64.wrap (f_ctHdS r1 + 1) + 1) + 1)))
                            (setF (0 + x20.toNat) 7
                              (T.bool ((IntKind.i64.wrap (IntKind.i64.wrap (f_ctHdS r1 + 1) + 1)).tmod 3 == 0))
                              (setF (0 + x20.toNat) 6 (T.int IntKind.i64 (IntKind.i64.wrap (f_ctHdS r1 + 1)))
                                (setF (0 + x20.toNat) 5 (T.int IntKind.i64 (f_ctHdS r1))
                                  (setF (0 + x20.toNat) (4 + 0)
                                    (T.arr 2 (f_mkHdS r1).length (atL Hd.cs (f_mkHdS r1)))
                                    (setF (0 + x20.toNat) (4 + 0)
                                      (T.lent 2
                                        (setF (0 + x20.toNat) (2 + 1)
                                            (T.int IntKind.i64
                                              (IntKind.i64.wrap (IntKind.i64.wrap (IntKind.i64.wrap (x4 + 1) + 1) + 1)))
                                            (setF (0 + x20.toNat) (2 + 0)
                                              (T.int IntKind.i64 (IntKind.i64.wrap (IntKind.i64.wrap (x4 + 1) + 1)))
                                              (setF (0 + x20.toNat) (0 + 1)
                                                (T.int IntKind.i64 (IntKind.i64.wrap (x4 + 1)))
                                                (setF (0 + x20.toNat) (0 + 0) (T.int IntKind.i64 x4) fx2)))
                                            (0 + x20.toNat) (4 + 0)).ln)
                                      (setF (0 + x20.toNat) (2 + 1)
                                        (T.int IntKind.i64
                                          (IntKind.i64.wrap (IntKind.i64.wrap (IntKind.i64.wrap (x4 + 1) + 1) + 1)))
                                        (setF (0 + x20.toNat) (2 + 0)
                                          (T.int IntKind.i64 (IntKind.i64.wrap (IntKind.i64.wrap (x4 + 1) + 1)))
                                          (setF (0 + x20.toNat) (0 + 1) (T.int IntKind.i64 (IntKind.i64.wrap (x4 + 1)))
                                            (setF (0 + x20.toNat) (0 + 0) (T.int IntKind.i64 x4) fx2)))))))))
                            (0 + x20.toNat) (9 + 0)).ln)
                      (setF (0 + x20.toNat) 8
                        (T.int IntKind.i64
                          (IntKind.i64.wrap (IntKind.i64.wrap (IntKind.i64.wrap (f_ctHdS r1 + 1) + 1) + 1)))
                        (setF (0 + x20.toNat) 7
                          (T.bool ((IntKind.i64.wrap (IntKind.i64.wrap (f_ctHdS r1 + 1) + 1)).tmod 3 == 0))
                          (setF (0 + x20.toNat) 6 (T.int IntKind.i64 (IntKind.i64.wrap (f_ctHdS r1 + 1)))
                            (setF (0 + x20.toNat) 5 (T.int IntKind.i64 (f_ctHdS r1))
                              (setF (0 + x20.toNat) (4 + 0)
                                (T.arr 2 (f_mkHdS r1).length (atL Hd.cs (f_mkHdS r1)))
                                (setF (0 + x20.toNat) (4 + 0)
                                  (T.lent 2
                                    (setF (0 + x20.toNat) (2 + 1)
                                        (T.int IntKind.i64
                                          (IntKind.i64.wrap (IntKind.i64.wrap (IntKind.i64.wrap (x4 + 1) + 1) + 1)))
                                        (setF (0 + x20.toNat) (2 + 0)
                                          (T.int IntKind.i64 (IntKind.i64.wrap (IntKind.i64.wrap (x4 + 1) + 1)))
                                          (setF (0 + x20.toNat) (0 + 1) (T.int IntKind.i64 (IntKind.i64.wrap (x4 + 1)))
                                            (setF (0 + x20.toNat) (0 + 0) (T.int IntKind.i64 x4) fx2)))
                                        (0 + x20.toNat) (4 + 0)).ln)
                                  (setF (0 + x20.toNat) (2 + 1)
                                    (T.int IntKind.i64
                                      (IntKind.i64.wrap (IntKind.i64.wrap (IntKind.i64.wrap (x4 + 1) + 1) + 1)))
                                    (setF (0 + x20.toNat) (2 + 0)
                                      (T.int IntKind.i64 (IntKind.i64.wrap (IntKind.i64.wrap (x4 + 1) + 1)))
                                      (setF (0 + x20.toNat) (0 + 1) (T.int IntKind.i64 (IntKind.i64.wrap (x4 + 1)))
                                        (setF (0 + x20.toNat) (0 + 0) (T.int IntKind.i64 x4) fx2))))))))))))).get
              [0 + x20.toNat, 10 + 0]).fn)]),
  (0, false, [C.tr false (T.int IntKind.i64 (f_ctSfS r2))])] fun (r3 : List Int × Int) =>
  gd ((setF (0 + x20.toNat) (9 + 0) (T.arr 1 (f_mkSfS r2).length (atL Sf.cs (f_mkSfS r2)))
          (setF (0 + x20.toNat) (9 + 0)
            (T.lent 1
              (setF (0 + x20.toNat) 8
                  (T.int IntKind.i64
                    (IntKind.i64.wrap (IntKind.i64.wrap (IntKind.i64.wrap (f_ctHdS r1 + 1) + 1) + 1)))
                  (setF (0 + x20.toNat) 7
                    (T.bool ((IntKind.i64.wrap (IntKind.i64.wrap (f_ctHdS r1 + 1) + 1)).tmod 3 == 0))
                    (setF (0 + x20.toNat) 6 (T.int IntKind.i64 (IntKind.i64.wrap (f_ctHdS r1 + 1)))
                      (setF (0 + x20.toNat) 5 (T.int IntKind.i64 (f_ctHdS r1))
                        (setF (0 + x20.toNat) (4 + 0)
                          (T.arr 2 (f_mkHdS r1).length (atL Hd.cs (f_mkHdS r1)))
                          (setF (0 + x20.toNat) (4 + 0)
                            (T.lent 2
                              (setF (0 + x20.toNat) (2 + 1)
                                  (T.int IntKind.i64
                                    (IntKind.i64.wrap (IntKind.i64.wrap (IntKind.i64.wrap (x4 + 1) + 1) + 1)))
                                  (setF (0 + x20.toNat) (2 + 0)
                                    (T.int IntKind.i64 (IntKind.i64.wrap (IntKind.i64.wrap (x4 + 1) + 1)))
                                    (setF (0 + x20.toNat) (0 + 1) (T.int IntKind.i64 (IntKind.i64.wrap (x4 + 1)))
                                      (setF (0 + x20.toNat) (0 + 0) (T.int IntKind.i64 x4) fx2)))
                                  (0 + x20.toNat) (4 + 0)).ln)
                            (setF (0 + x20.toNat) (2 + 1)
                              (T.int IntKind.i64
                                (IntKind.i64.wrap (IntKind.i64.wrap (IntKind.i64.wrap (x4 + 1) + 1) + 1)))
                              (setF (0 + x20.toNat) (2 + 0)
                                (T.int IntKind.i64 (IntKind.i64.wrap (IntKind.i64.wrap (x4 + 1) + 1)))
                                (setF (0 + x20.toNat) (0 + 1) (T.int IntKind.i64 (IntKind.i64.wrap (x4 + 1)))
                                  (setF (0 + x20.toNat) (0 + 0) (T.int IntKind.i64 x4) fx2)))))))))
                  (0 + x20.toNat) (9 + 0)).ln)
            (setF (0 + x20.toNat) 8
              (T.int IntKind.i64
                (IntKind.i64.wrap (IntKind.i64.wrap (IntKind.i64.wrap (f_ctHdS r1 + 1) + 1) + 1)))
              (setF (0 + x20.toNat) 7
                (T.bool ((IntKind.i64.wrap (IntKind.i64.wrap (f_ctHdS r1 + 1) + 1)).tmod 3 == 0))
                (setF (0 + x20.toNat) 6 (T.int IntKind.i64 (IntKind.i64.wrap (f_ctHdS r1 + 1)))
                  (setF (0 + x20.toNat) 5 (T.int IntKind.i64 (f_ctHdS r1))
                    (setF (0 + x20.toNat) (4 + 0) (T.arr 2 (f_mkHdS r1).length (atL Hd.cs (f_mkHdS r1)))
                      (setF (0 + x20.toNat) (4 + 0)
                        (T.lent 2
                          (setF (0 + x20.toNat) (2 + 1)
                              (T.int IntKind.i64
                                (IntKind.i64.wrap (IntKind.i64.wrap (IntKind.i64.wrap (x4 + 1) + 1) + 1)))
                              (setF (0 + x20.toNat) (2 + 0)
                                (T.int IntKind.i64 (IntKind.i64.wrap (IntKind.i64.wrap (x4 + 1) + 1)))
                                (setF (0 + x20.toNat) (0 + 1) (T.int IntKind.i64 (IntKind.i64.wrap (x4 + 1)))
                                  (setF (0 + x20.toNat) (0 + 0) (T.int IntKind.i64 x4) fx2)))
                              (0 + x20.toNat) (4 + 0)).ln)
                        (setF (0 + x20.toNat) (2 + 1)
                          (T.int IntKind.i64 (IntKind.i64.wrap (IntKind.i64.wrap (IntKind.i64.wrap (x4 + 1) + 1) + 1)))
                          (setF (0 + x20.toNat) (2 + 0)
                            (T.int IntKind.i64 (IntKind.i64.wrap (IntKind.i64.wrap (x4 + 1) + 1)))
                            (setF (0 + x20.toNat) (0 + 1) (T.int IntKind.i64 (IntKind.i64.wrap (x4 + 1)))
                              (setF (0 + x20.toNat) (0 + 0) (T.int IntKind.i64 x4) fx2)))))))))))
          (0 + x20.toNat) (10 + 0)).ln.beq
    (f_mkLI r3).length &&
  ((0 + x20.toNat).blt nx2 && true && true)) <|
  K .normal (st_mkRmS_1 l k (f_ctLI r3) (IntKind.i64.wrap (x20 + 1)) (nx2) (setF (0 + x20.toNat) (10 + 0) (T.arr 1 (f_mkLI r3).length (atL rowI (f_mkLI r3)))
  (setF (0 + x20.toNat) (10 + 0)
    (T.lent 1
      (setF (0 + x20.toNat) (9 + 0) (T.arr 1 (f_mkSfS r2).length (atL Sf.cs (f_mkSfS r2)))
          (setF (0 + x20.toNat) (9 + 0)
            (T.lent 1
              (setF (0 + x20.toNat) 8
                  (T.int IntKind.i64
                    (IntKind.i64.wrap (IntKind.i64.wrap (IntKind.i64.wrap (f_ctHdS r1 + 1) + 1) + 1)))
                  (setF (0 + x20.toNat) 7
                    (T.bool ((IntKind.i64.wrap (IntKind.i64.wrap (f_ctHdS r1 + 1) + 1)).tmod 3 == 0))
                    (setF (0 + x20.toNat) 6 (T.int IntKind.i64 (IntKind.i64.wrap (f_ctHdS r1 + 1)))
                      (setF (0 + x20.toNat) 5 (T.int IntKind.i64 (f_ctHdS r1))
                        (setF (0 + x20.toNat) (4 + 0)
                          (T.arr 2 (f_mkHdS r1).length (atL Hd.cs (f_mkHdS r1)))
                          (setF (0 + x20.toNat) (4 + 0)
                            (T.lent 2
                              (setF (0 + x20.toNat) (2 + 1)
                                  (T.int IntKind.i64
                                    (IntKind.i64.wrap (IntKind.i64.wrap (IntKind.i64.wrap (x4 + 1) + 1) + 1)))
                                  (setF (0 + x20.toNat) (2 + 0)
                                    (T.int IntKind.i64 (IntKind.i64.wrap (IntKind.i64.wrap (x4 + 1) + 1)))
                                    (setF (0 + x20.toNat) (0 + 1) (T.int IntKind.i64 (IntKind.i64.wrap (x4 + 1)))
                                      (setF (0 + x20.toNat) (0 + 0) (T.int IntKind.i64 x4) fx2)))
                                  (0 + x20.toNat) (4 + 0)).ln)
                            (setF (0 + x20.toNat) (2 + 1)
                              (T.int IntKind.i64
                                (IntKind.i64.wrap (IntKind.i64.wrap (IntKind.i64.wrap (x4 + 1) + 1) + 1)))
                              (setF (0 + x20.toNat) (2 + 0)
                                (T.int IntKind.i64 (IntKind.i64.wrap (IntKind.i64.wrap (x4 + 1) + 1)))
                                (setF (0 + x20.toNat) (0 + 1) (T.int IntKind.i64 (IntKind.i64.wrap (x4 + 1)))
                                  (setF (0 + x20.toNat) (0 + 0) (T.int IntKind.i64 x4) fx2)))))))))
                  (0 + x20.toNat) (9 + 0)).ln)
            (setF (0 + x20.toNat) 8
              (T.int IntKind.i64
                (IntKind.i64.wrap (IntKind.i64.wrap (IntKind.i64.wrap (f_ctHdS r1 + 1) + 1) + 1)))
              (setF (0 + x20.toNat) 7
                (T.bool ((IntKind.i64.wrap (IntKind.i64.wrap (f_ctHdS r1 + 1) + 1)).tmod 3 == 0))
                (setF (0 + x20.toNat) 6 (T.int IntKind.i64 (IntKind.i64.wrap (f_ctHdS r1 + 1)))
                  (setF (0 + x20.toNat) 5 (T.int IntKind.i64 (f_ctHdS r1))
                    (setF (0 + x20.toNat) (4 + 0) (T.arr 2 (f_mkHdS r1).length (atL Hd.cs (f_mkHdS r1)))
                      (setF (0 + x20.toNat) (4 + 0)
                        (T.lent 2
                          (setF (0 + x20.toNat) (2 + 1)
                              (T.int IntKind.i64
                                (IntKind.i64.wrap (IntKind.i64.wrap (IntKind.i64.wrap (x4 + 1) + 1) + 1)))
                              (setF (0 + x20.toNat) (2 + 0)
                                (T.int IntKind.i64 (IntKind.i64.wrap (IntKind.i64.wrap (x4 + 1) + 1)))
                                (setF (0 + x20.toNat) (0 + 1) (T.int IntKind.i64 (IntKind.i64.wrap (x4 + 1)))
                                  (setF (0 + x20.toNat) (0 + 0) (T.int IntKind.i64 x4) fx2)))
                              (0 + x20.toNat) (4 + 0)).ln)
                        (setF (0 + x20.toNat) (2 + 1)
                          (T.int IntKind.i64 (IntKind.i64.wrap (IntKind.i64.wrap (IntKind.i64.wrap (x4 + 1) + 1) + 1)))
                          (setF (0 + x20.toNat) (2 + 0)
                            (T.int IntKind.i64 (IntKind.i64.wrap (IntKind.i64.wrap (x4 + 1) + 1)))
                            (setF (0 + x20.toNat) (0 + 1) (T.int IntKind.i64 (IntKind.i64.wrap (x4 + 1)))
                              (setF (0 + x20.toNat) (0 + 0) (T.int IntKind.i64 x4) fx2)))))))))))
          (0 + x20.toNat) (10 + 0)).ln)
    (setF (0 + x20.toNat) (9 + 0) (T.arr 1 (f_mkSfS r2).length (atL Sf.cs (f_mkSfS r2)))
      (setF (0 + x20.toNat) (9 + 0)
        (T.lent 1
          (setF (0 + x20.toNat) 8
              (T.int IntKind.i64
                (IntKind.i64.wrap (IntKind.i64.wrap (IntKind.i64.wrap (f_ctHdS r1 + 1) + 1) + 1)))
              (setF (0 + x20.toNat) 7
                (T.bool ((IntKind.i64.wrap (IntKind.i64.wrap (f_ctHdS r1 + 1) + 1)).tmod 3 == 0))
                (setF (0 + x20.toNat) 6 (T.int IntKind.i64 (IntKind.i64.wrap (f_ctHdS r1 + 1)))
                  (setF (0 + x20.toNat) 5 (T.int IntKind.i64 (f_ctHdS r1))
                    (setF (0 + x20.toNat) (4 + 0) (T.arr 2 (f_mkHdS r1).length (atL Hd.cs (f_mkHdS r1)))
                      (setF (0 + x20.toNat) (4 + 0)
                        (T.lent 2
                          (setF (0 + x20.toNat) (2 + 1)
                              (T.int IntKind.i64
                                (IntKind.i64.wrap (IntKind.i64.wrap (IntKind.i64.wrap (x4 + 1) + 1) + 1)))
                              (setF (0 + x20.toNat) (2 + 0)
                                (T.int IntKind.i64 (IntKind.i64.wrap (IntKind.i64.wrap (x4 + 1) + 1)))
                                (setF (0 + x20.toNat) (0 + 1) (T.int IntKind.i64 (IntKind.i64.wrap (x4 + 1)))
                                  (setF (0 + x20.toNat) (0 + 0) (T.int IntKind.i64 x4) fx2)))
                              (0 + x20.toNat) (4 + 0)).ln)
                        (setF (0 + x20.toNat) (2 + 1)
                          (T.int IntKind.i64 (IntKind.i64.wrap (IntKind.i64.wrap (IntKind.i64.wrap (x4 + 1) + 1) + 1)))
                          (setF (0 + x20.toNat) (2 + 0)
                            (T.int IntKind.i64 (IntKind.i64.wrap (IntKind.i64.wrap (x4 + 1) + 1)))
                            (setF (0 + x20.toNat) (0 + 1) (T.int IntKind.i64 (IntKind.i64.wrap (x4 + 1)))
                              (setF (0 + x20.toNat) (0 + 0) (T.int IntKind.i64 x4) fx2)))))))))
              (0 + x20.toNat) (9 + 0)).ln)
        (setF (0 + x20.toNat) 8
          (T.int IntKind.i64 (IntKind.i64.wrap (IntKind.i64.wrap (IntKind.i64.wrap (f_ctHdS r1 + 1) + 1) + 1)))
          (setF (0 + x20.toNat) 7
            (T.bool ((IntKind.i64.wrap (IntKind.i64.wrap (f_ctHdS r1 + 1) + 1)).tmod 3 == 0))
            (setF (0 + x20.toNat) 6 (T.int IntKind.i64 (IntKind.i64.wrap (f_ctHdS r1 + 1)))
              (setF (0 + x20.toNat) 5 (T.int IntKind.i64 (f_ctHdS r1))
                (setF (0 + x20.toNat) (4 + 0) (T.arr 2 (f_mkHdS r1).length (atL Hd.cs (f_mkHdS r1)))
                  (setF (0 + x20.toNat) (4 + 0)
                    (T.lent 2
                      (setF (0 + x20.toNat) (2 + 1)
                          (T.int IntKind.i64 (IntKind.i64.wrap (IntKind.i64.wrap (IntKind.i64.wrap (x4 + 1) + 1) + 1)))
                          (setF (0 + x20.toNat) (2 + 0)
                            (T.int IntKind.i64 (IntKind.i64.wrap (IntKind.i64.wrap (x4 + 1) + 1)))
                            (setF (0 + x20.toNat) (0 + 1) (T.int IntKind.i64 (IntKind.i64.wrap (x4 + 1)))
                              (setF (0 + x20.toNat) (0 + 0) (T.int IntKind.i64 x4) fx2)))
                          (0 + x20.toNat) (4 + 0)).ln)
                    (setF (0 + x20.toNat) (2 + 1)
                      (T.int IntKind.i64 (IntKind.i64.wrap (IntKind.i64.wrap (IntKind.i64.wrap (x4 + 1) + 1) + 1)))
                      (setF (0 + x20.toNat) (2 + 0)
                        (T.int IntKind.i64 (IntKind.i64.wrap (IntKind.i64.wrap (x4 + 1) + 1)))
                        (setF (0 + x20.toNat) (0 + 1) (T.int IntKind.i64 (IntKind.i64.wrap (x4 + 1)))
                          (setF (0 + x20.toNat) (0 + 0) (T.int IntKind.i64 x4) fx2)))))))))))))))
 else
 K (.exit 0) (ex_mkRmS_1_1 l k x4 x20 nx2 fx2)) := by kernel_rfl
theorem post_mkRmS_1_1 (l : List Rm) (k : Int) (x4 : Int) (x20 : Int) (nx2 : Nat) (fx2 : Nat → Nat → T) (n : Nat) : contAt prog (tabS [(i_mkHdS, e_mkHdS), (i_mkSfS, e_mkSfS), (i_mkLI, e_mkLI)]) kp_mkRmS F_mkRmS ts_mkRmS [1, 0, 1, 0] [] n (.exit 0) (ex_mkRmS_1_1 l k x4 x20 nx2 fx2) = (
 some ([(false, [.tr true (T.int IntKind.i64 x4)])], [(false, [.tr true (.arr (11) (nx2) (fx2))]), (false, [])])) := by kernel_rfl
theorem pre_mkRmS (l : List Rm) (k : Int) (n : Nat) : body prog (tabS [(i_mkHdS, e_mkHdS), (i_mkSfS, e_mkSfS), (i_mkLI, e_mkLI)]) kp_mkRmS n F_mkRmS [lT (eL 11 Rm.cs l), aI k] = (
 loopAt prog (tabS [(i_mkHdS, e_mkHdS), (i_mkSfS, e_mkSfS), (i_mkLI, e_mkLI)]) kp_mkRmS F_mkRmS [1, 0, 1, 0] n n (st_mkRmS_1 l k (k) (0) (T.ln (eL 11 Rm.cs l)) (T.fn (eL 11 Rm.cs l))) (contAt prog (tabS [(i_mkHdS, e_mkHdS), (i_mkSfS, e_mkSfS), (i_mkLI, e_mkLI)]) kp_mkRmS F_mkRmS ts_mkRmS [1, 0, 1, 0] [] n)) := by kernel_rfl
theorem body_mkRmS (l : List Rm) (k : Int) (h : okh_RmS (l, k)) : body prog (tabS [(i_mkHdS, e_mkHdS), (i_mkSfS, e_mkSfS), (i_mkLI, e_mkLI)]) kp_mkRmS (l.length + 1) F_mkRmS (eam_RmS (l, k)) = some ([oT (.int .i64 (f_ctRmS (l, k)))], [oT (eL 11 Rm.cs (f_mkRmS (l, k))), nul]) := by
  obtain ⟨hl, hk0, hk1⟩ := h
  have hbm := bm
  dsimp only at hl hk0 hk1
  have hl' : l.length ≤ BM := hl.1
  unfold eam_RmS f_ctRmS f_mkRmS
  dsimp only
  rw [pre_mkRmS]
  have hst : st_mkRmS_1 l k k 0 l.length (atL Rm.cs l) = (fun i : Nat => st_mkRmS_1 l k (k + cntL c1_RmS (l.take i)) (i : Nat) l.length (atL Rm.cs (mkd m1_RmS c1_RmS l k i))) 0 := by simp [cntL, mkd_zero]
  refine Eq.trans (congrArg (fun s => loopAt prog _ _ _ _ _ _ s _) hst) ?_
  rw [forLoop l.length (fun i : Nat => st_mkRmS_1 l k (k + cntL c1_RmS (l.take i)) (i : Nat) l.length (atL Rm.cs (mkd m1_RmS c1_RmS l k i))) (ex_mkRmS_1_1 l k (k + cntL c1_RmS l) l.length l.length (atL Rm.cs (mk_RmS l k))) 0 (fun i K hi => ?_) (fun K => ?_) _ (Nat.le_refl _)]
  · rw [post_mkRmS_1_1]
    have := markL_len m1_RmS c1_RmS l k
    rw [eL_T, show (mk_RmS l k).length = l.length from this]
    rfl
  · have hx := List.getElem?_eq_getElem hi
    obtain ⟨x, hxe⟩ : ∃ x, x = l[i] := ⟨_, rfl⟩
    rw [← hxe] at hx
    have hxm : x ∈ l := List.mem_of_getElem? hx
    have hg := mkd_get m1_RmS c1_RmS l k hx
    have hc := cntL_take c1_RmS l hx
    have hcl := cntL_le c1_RmS l (i + 1)
    have hcx : c1_RmS x = 1 + 1 + 1 + 1 + cntL c1_HdS x.kids + 1 + 1 + 1 + 1 + cntL c1_SfS x.things + cntL c1_LI x.tags := rfl
    have h0 := (hl.2 _ hxm).1
    have h1 := (hl.2 _ hxm).2.1
    have h2 := (hl.2 _ hxm).2.2
    rw [hc, round_mkRmS_1]
    have hms := mkd_set m1_RmS c1_RmS l k hx
    have hml : i < (mkd m1_RmS c1_RmS l k i).length := by rw [mkd_len _ _ _ _ (by omega)]; exact hi
    obtain ⟨k0, hk⟩ : ∃ k0, k0 = k + (cntL c1_RmS (l.take i) : Int) := ⟨_, rfl⟩
    have hk2 : k + ((cntL c1_RmS (l.take i) + c1_RmS x : Nat) : Int) = k0 + 1 + 1 + 1 + 1 + cntL c1_HdS x.kids + 1 + 1 + 1 + 1 + cntL c1_SfS x.things + cntL c1_LI x.tags := by omega
    rw [hk2]
    rw [← hk] at hms ⊢
    have g0 : okh_HdS (x.kids, k0 + 1 + 1 + 1 + 1) := ⟨h0, by dsimp only; omega, by dsimp only; omega⟩
    have g1 : okh_SfS (x.things, k0 + 1 + 1 + 1 + 1 + cntL c1_HdS x.kids + 1 + 1 + 1 + 1) := ⟨h1, by dsimp only; omega, by dsimp only; omega⟩
    have g2 : okh_LI (x.tags, k0 + 1 + 1 + 1 + 1 + cntL c1_HdS x.kids + 1 + 1 + 1 + 1 + cntL c1_SfS x.things) := ⟨h2, by dsimp only; omega, by dsimp only; omega⟩
    simp (disch := omega) only [lt_d, ge0_d, Int.toNat_natCast, blt_d, ble_self, beq_self, decide_true, cond_true, Bool.and_self, Bool.and_true, Bool.true_and, gd_true, Nat.zero_add, List.getD_cons_zero, List.getD_cons_succ, isI_int, toI_int, isB_bool, toB_bool, eL_T, arr_ln, arr_fn, arr_wd, arr_is, arr_get, hi, atL_of hg, Rm.cs, wrapI, wrapS, setF_d, and_self, if_true, if_false, true_and, false_and, and_true, and_false, Nat.add_zero, Nat.reduceEqDiff, Nat.reduceAdd, entK_of (dm_mkHdS g0) (iv_mkHdS g0), len_mkHdS, d_mkHdS, d_ctHdS, entK_of (dm_mkSfS g1) (iv_mkSfS g1), len_mkSfS, d_mkSfS, d_ctSfS, entK_of (dm_mkLI g2) (iv_mkLI g2), len_mkLI, d_mkLI, d_ctLI]
    rw [← hms]
    congr 2
    refine set_atL hml fun j' k' => ?_
    by_cases e : j' = i
    · subst e
      rcases k' with _ | _ | _ | _ | _ | _ | _ | _ | _ | _ | _ | k' <;> simp [int_eqM, setF_d, Rm.cs, m1_RmS, atL_of hg, eL_T, len_mkHdS, len_mkSfS, len_mkLI]
    · simp [setF_d, e]
  · rw [round_mkRmS_1, mkd_all]
    simp only [lt_d, Nat.lt_irrefl, decide_false, cond_false, List.take_length]
    rfl
theorem s_mkRmS : EntOk prog i_mkRmS e_mkRmS := ent_ok eam_RmS_inj fun x hx =>
  body_sound (φ := (tabS [(i_mkHdS, e_mkHdS), (i_mkSfS, e_mkSfS), (i_mkLI, e_mkLI)])) (tabS_cons s_mkHdS (tabS_cons s_mkSfS (tabS_cons s_mkLI tabS_nil))) mixed (kp := kp_mkRmS) (n := x.1.length + 1) func68 (c := bodyOf F_mkRmS) (by kernel_rfl) (body_mkRmS x.1 x.2 hx) (name_ok (by kernel_rfl))
theorem dm_hdRmS {l : List Rm} {k : Int} (h : okh_RmS (l, k)) : dom okh_RmS eah_RmS [(0, false, [C.tr false (T.arr 11 l.length (atL Rm.cs l))]), (0, false, [C.tr false (T.int IntKind.i64 k)])] = true := dom_ea (ea := eah_RmS) (x := (l, k)) h
theorem iv_hdRmS {l : List Rm} {k : Int} (h : okh_RmS (l, k)) : inv okh_RmS eah_RmS [(0, false, [C.tr false (T.arr 11 l.length (atL Rm.cs l))]), (0, false, [C.tr false (T.int IntKind.i64 k)])] = (l, k) := inv_ea eah_RmS_inj (x := (l, k)) h
theorem y_hdRmS {l : List Rm} {k : Int} (h : l = mk_RmS l k) : f_hdRmS (l, k) = k + cntL c1_RmS l := if_pos h
theorem n_hdRmS {l : List Rm} {k : Int} (h : ¬ l = mk_RmS l k) : f_hdRmS (l, k) = -1 := if_neg h
theorem dm_mkRmS {l : List Rm} {k : Int} (h : okh_RmS (l, k)) : dom okh_RmS eam_RmS [(1, false, [C.tr true (T.arr 11 l.length (atL Rm.cs l))]), (0, false, [C.tr false (T.int IntKind.i64 k)])] = true := dom_ea (ea := eam_RmS) (x := (l, k)) h
theorem iv_mkRmS {l : List Rm} {k : Int} (h : okh_RmS (l, k)) : inv okh_RmS eam_RmS [(1, false, [C.tr true (T.arr 11 l.length (atL Rm.cs l))]), (0, false, [C.tr false (T.int IntKind.i64 k)])] = (l, k) := inv_ea eam_RmS_inj (x := (l, k)) h
theorem len_mkRmS (l : List Rm) (k : Int) : (mk_RmS l k).length = l.length := markL_len _ _ _ _
theorem d_mkRmS (l : List Rm) (k : Int) : f_mkRmS (l, k) = mk_RmS l k := rfl
theorem d_ctRmS (l : List Rm) (k : Int) : f_ctRmS (l, k) = k + cntL c1_RmS l := rfl
end Go.Mach.F
namespace Go.Mach.F
open Go Go.Mach Go.Proofs.Try
theorem cb_RmS (l : List Rm) : cntL c1_RmS l ≤ 16 * n_RmS l := by
  have := cntL_lin c1_RmS n1_RmS 8 16 l fun x _ => by have := cb_HdS x.kids; have := cb_SfS x.things; have := cb_LI x.tags; show c1_RmS x ≤ _; unfold c1_RmS n1_RmS; omega
  unfold n_RmS
  omega
theorem beq_mkRmS (l : List Rm) (k : Int) : Nat.beq l.length (mk_RmS l k).length = true := by rw [len_mkRmS]; simp only [beq_self]
theorem ct1_RmS (x : Rm) (k : Int) : c1_RmS (m1_RmS x k) = c1_RmS x := by simp only [c1_RmS, m1_RmS, mkmk_HdS, ctmk_HdS, mkmk_SfS, ctmk_SfS, mkmk_LI, ctmk_LI]
theorem mm1_RmS (x : Rm) (k : Int) : m1_RmS (m1_RmS x k) k = m1_RmS x k := by simp only [m1_RmS, mkmk_HdS, ctmk_HdS, mkmk_SfS, ctmk_SfS, mkmk_LI, ctmk_LI]
theorem mkmk_RmS (l : List Rm) (k : Int) : mk_RmS (mk_RmS l k) k = mk_RmS l k := markL_idem m1_RmS c1_RmS (fun x k => mm1_RmS x k) (fun x k => ct1_RmS x k) l k
theorem ctmk_RmS (l : List Rm) (k : Int) : cntL c1_RmS (mk_RmS l k) = cntL c1_RmS l := cntL_mark m1_RmS c1_RmS (fun x k => ct1_RmS x k) l k
theorem okqmk_RmS {l : List Rm} {k : Int} (h : okq_RmS l) : okq_RmS (mk_RmS l k) := ⟨by rw [len_mkRmS]; exact h.1, fun x hx => by
    obtain ⟨i, hi, e⟩ := List.getElem_of_mem hx
    have hi' : i < l.length := by rw [len_mkRmS] at hi; exact hi
    have hg := markL_get m1_RmS c1_RmS l k (List.getElem?_eq_getElem hi')
    have he : (mk_RmS l k)[i]? = some x := by rw [List.getElem?_eq_getElem hi, e]
    rw [show (mk_RmS l k)[i]? = (markL m1_RmS c1_RmS l k)[i]? from rfl, hg] at he
    obtain rfl := Option.some.inj he
    have hy : l[i] ∈ l := List.getElem_mem hi'
    exact ⟨okqmk_HdS ((h.2 _ hy).1), okqmk_SfS ((h.2 _ hy).2.1), okqmk_LI ((h.2 _ hy).2.2)⟩⟩
end Go.Mach.F
namespace Go.Mach.F
open Go Go.Mach Go.Proofs.Try
--=set_option maxRecDepth 100000
def ok_ToMl (x : Ml) : Prop := ok_RmS x.rooms ∧ ok_LI x.log
def ea_ToMl (x : Ml) : List Arg := [aR x.cs]
def f_ToMl (x : Ml) : Ml := x
noncomputable def e_ToMl : Ent := ent [] ok_ToMl ea_ToMl (fun l => erR 1 l.cs) f_ToMl
theorem ea_ToMl_inj (x y : Ml) (h : ea_ToMl x = ea_ToMl y) : x = y := by
  simp only [ea_ToMl, List.cons.injEq, and_true, true_and] at h
  exact Ml.cs_ext (aR_inj h)
theorem dm_ToMl {l : Ml} (h : ok_ToMl l) : dom ok_ToMl ea_ToMl [(0, true, [C.tr false (T.int IntKind.i64 l.c.chunks), C.tr false (T.int IntKind.i64 l.c.size), C.tr false (T.int IntKind.i64 l.c.slots), C.tr false (T.int IntKind.i64 l.c.tax), C.tr false (T.int IntKind.i64 l.c.slice), C.tr false (T.int IntKind.i64 l.c.gens), C.tr false (T.arr 11 l.rooms.length (atL Rm.cs l.rooms)), C.tr false (T.arr 1 l.log.length (atL rowI l.log))])] = true := dom_ea (ea := ea_ToMl) (x := l) h
theorem iv_ToMl {l : Ml} (h : ok_ToMl l) : inv ok_ToMl ea_ToMl [(0, true, [C.tr false (T.int IntKind.i64 l.c.chunks), C.tr false (T.int IntKind.i64 l.c.size), C.tr false (T.int IntKind.i64 l.c.slots), C.tr false (T.int IntKind.i64 l.c.tax), C.tr false (T.int IntKind.i64 l.c.slice), C.tr false (T.int IntKind.i64 l.c.gens), C.tr false (T.arr 11 l.rooms.length (atL Rm.cs l.rooms)), C.tr false (T.arr 1 l.log.length (atL rowI l.log))])] = l := inv_ea ea_ToMl_inj (x := l) h
theorem d_ToMl (l : Ml) : f_ToMl l = l := rfl
def i_ToMl : Nat := 14
noncomputable abbrev F_ToMl : Func := f14
def kp_ToMl : List (Nat × List Nat) := [(0, [4, 5, 8, 9, 12, 13, 64]), (1, [4, 5, 8, 9, 12, 13, 64]), (2, [4, 5, 8, 9, 12, 13, 64]), (3, [4, 5, 8, 9, 12, 13, 64]), (4, [8, 9, 12, 13, 64]), (5, [8, 9, 12, 13, 64])]
theorem pre_ToMl (l : Ml) (n : Nat) : body prog (tabS [(i_toCf, e_toCf), (i_toRmS, e_toRmS), (i_toLI, e_toLI)]) kp_ToMl n F_ToMl [aR l.cs] = (
 gd (dom ok_RmS ea_RmS [(0, false, [C.tr false (eL 11 Rm.cs l.2)])]) <|
 gd ((inv ok_RmS ea_RmS [(0, false, [C.tr false (eL 11 Rm.cs l.2)])]).length.ble
    (inv ok_RmS ea_RmS [(0, false, [C.tr false (eL 11 Rm.cs l.2)])]).length &&
  true) <|
 gd (dom ok_LI ea_LI [(0, false, [C.tr false (eL 1 rowI l.3)])]) <|
 gd ((inv ok_LI ea_LI [(0, false, [C.tr false (eL 1 rowI l.3)])]).length.ble
    (inv ok_LI ea_LI [(0, false, [C.tr false (eL 1 rowI l.3)])]).length &&
  true) <|
 gd ((inv ok_RmS ea_RmS [(0, false, [C.tr false (eL 11 Rm.cs l.2)])]).length.ble
    (inv ok_RmS ea_RmS [(0, false, [C.tr false (eL 11 Rm.cs l.2)])]).length &&
  true) <|
 gd ((inv ok_LI ea_LI [(0, false, [C.tr false (eL 1 rowI l.3)])]).length.ble
    (inv ok_LI ea_LI [(0, false, [C.tr false (eL 1 rowI l.3)])]).length &&
  true) <|
 gd ((inv ok_RmS ea_RmS [(0, false, [C.tr false (eL 11 Rm.cs l.2)])]).length.ble
    (inv ok_RmS ea_RmS [(0, false, [C.tr false (eL 11 Rm.cs l.2)])]).length &&
  true) <|
 gd ((inv ok_LI ea_LI [(0, false, [C.tr false (eL 1 rowI l.3)])]).length.ble
    (inv ok_LI ea_LI [(0, false, [C.tr false (eL 1 rowI l.3)])]).length &&
  true) <|
 some ([(true, [.tr true (T.int IntKind.i64 l.c.1), .tr true (T.int IntKind.i64 l.c.2), .tr true (T.int IntKind.i64 l.c.3), .tr true (T.int IntKind.i64 l.c.4), .tr true (T.int IntKind.i64 l.c.5), .tr true (T.int IntKind.i64 l.c.6), .tr true (.arr (11) ((inv ok_RmS ea_RmS [(0, false, [C.tr false (eL 11 Rm.cs l.2)])]).length) ((eL 11 Rm.cs (inv ok_RmS ea_RmS [(0, false, [C.tr false (eL 11 Rm.cs l.2)])])).fn)), .tr true (.arr (1) ((inv ok_LI ea_LI [(0, false, [C.tr false (eL 1 rowI l.3)])]).length) (atL rowI (inv ok_LI ea_LI [(0, false, [C.tr false (eL 1 rowI l.3)])])))])], [(false, [])])) := by kernel_rfl
theorem body_ToMl (l : Ml) (n : Nat) (h : ok_ToMl l) : body prog (tabS [(i_toCf, e_toCf), (i_toRmS, e_toRmS), (i_toLI, e_toLI)]) kp_ToMl n F_ToMl (ea_ToMl l) = some (erR 1 l.cs) := by
  have h0 : ok_RmS l.rooms := h.1
  have h1 : ok_LI l.log := h.2
  unfold ea_ToMl
  rw [pre_ToMl]
  simp only [lt_d, ge0_d, Int.toNat_natCast, blt_d, ble_self, beq_self, decide_true, cond_true, Bool.and_self, Bool.and_true, Bool.true_and, gd_true, Nat.zero_add, List.getD_cons_zero, List.getD_cons_succ, isI_int, toI_int, isB_bool, toB_bool, eL_T, arr_ln, arr_fn, arr_wd, arr_is, arr_get, Ml.cs, dm_toRmS h0, iv_toRmS h0, dm_toLI h1, iv_toLI h1, cut_all]
  rfl
theorem s_ToMl : EntOk prog i_ToMl e_ToMl := ent_ok ea_ToMl_inj fun x hx =>
  body_sound (φ := (tabS [(i_toCf, e_toCf), (i_toRmS, e_toRmS), (i_toLI, e_toLI)])) (tabS_cons s_toCf (tabS_cons s_toRmS (tabS_cons s_toLI tabS_nil))) mixed (kp := kp_ToMl) (n := 0) func14 (c := bodyOf F_ToMl) (by kernel_rfl) (body_ToMl x 0 hx) (name_ok (by kernel_rfl))
def okq_Ml (l : Ml) : Prop := okq_RmS l.rooms ∧ okq_LI l.log
def n_Ml (l : Ml) : Nat := n_RmS l.rooms + n_LI l.log
def ok_SzMl (x : Ml × Int) : Prop := z_Ml x.1 ∧ 0 ≤ x.2 ∧ x.2 ≤ LM
def ea_SzMl (x : Ml × Int) : List Arg := [aR x.1.cs, aI x.2]
def f_SzMl (x : Ml × Int) : Int := if (n_Ml x.1 : Int) ≤ x.2 then x.2 - n_Ml x.1 else -1
noncomputable def e_SzMl : Ent := ent [] ok_SzMl ea_SzMl (erI 2) f_SzMl
theorem ea_SzMl_inj (x y : Ml × Int) (h : ea_SzMl x = ea_SzMl y) : x = y := by
  obtain ⟨l1, k1⟩ := x
  obtain ⟨l2, k2⟩ := y
  simp only [ea_SzMl, List.cons.injEq, and_true, true_and] at h
  obtain ⟨e0, e1⟩ := h
  obtain rfl := Ml.cs_ext (aR_inj e0)
  obtain rfl := aI_inj e1
  rfl
theorem dm_SzMl {l : Ml} {k : Int} (h : ok_SzMl (l, k)) : dom ok_SzMl ea_SzMl [(0, true, [C.tr false (T.int IntKind.i64 l.c.chunks), C.tr false (T.int IntKind.i64 l.c.size), C.tr false (T.int IntKind.i64 l.c.slots), C.tr false (T.int IntKind.i64 l.c.tax), C.tr false (T.int IntKind.i64 l.c.slice), C.tr false (T.int IntKind.i64 l.c.gens), C.tr false (T.arr 11 l.rooms.length (atL Rm.cs l.rooms)), C.tr false (T.arr 1 l.log.length (atL rowI l.log))]), (0, false, [C.tr false (T.int IntKind.i64 k)])] = true := dom_ea (ea := ea_SzMl) (x := (l, k)) h
theorem iv_SzMl {l : Ml} {k : Int} (h : ok_SzMl (l, k)) : inv ok_SzMl ea_SzMl [(0, true, [C.tr false (T.int IntKind.i64 l.c.chunks), C.tr false (T.int IntKind.i64 l.c.size), C.tr false (T.int IntKind.i64 l.c.slots), C.tr false (T.int IntKind.i64 l.c.tax), C.tr false (T.int IntKind.i64 l.c.slice), C.tr false (T.int IntKind.i64 l.c.gens), C.tr false (T.arr 11 l.rooms.length (atL Rm.cs l.rooms)), C.tr false (T.arr 1 l.log.length (atL rowI l.log))]), (0, false, [C.tr false (T.int IntKind.i64 k)])] = (l, k) := inv_ea ea_SzMl_inj (x := (l, k)) h
def i_SzMl : Nat := 12
noncomputable abbrev F_SzMl : Func := f12
def kp_SzMl : List (Nat × List Nat) := [(0, [4, 8, 9]), (1, [4, 8, 9]), (2, [4, 8, 9, 40]), (3, [16]), (4, [4]), (5, [4, 64]), (6, [16]), (7, [16])]
theorem pre_SzMl (l : Ml) (k : Int) (n : Nat) : body prog (tabS [(i_szRmS, e_szRmS), (i_szLI, e_szLI)]) kp_SzMl n F_SzMl [aR l.cs, aI k] = (
 gd (dom okzz_RmS eaz_RmS [(0, false, [C.tr false (eL 11 Rm.cs l.2)]), (0, false, [C.tr false (T.int IntKind.i64 k)])]) <|
 bif decide
  (f_szRmS
      (inv okzz_RmS eaz_RmS
        [(0, false, [C.tr false (eL 11 Rm.cs l.2)]), (0, false, [C.tr false (T.int IntKind.i64 k)])]) <
    0) then
  some ([(false, [.tr true (T.int IntKind.i64 (-1))])], [(false, []), (false, [])])
 else
 bif decide
  (IntKind.i64.wrap
      (f_szRmS
          (inv okzz_RmS eaz_RmS
            [(0, false, [C.tr false (eL 11 Rm.cs l.2)]), (0, false, [C.tr false (T.int IntKind.i64 k)])]) -
        (↑l.3.length : Int)) <
    0) then
  some ([(false, [.tr true (T.int IntKind.i64 (-1))])], [(false, []), (false, [])])
 else
 bif decide
  (IntKind.i64.wrap
      (f_szRmS
          (inv okzz_RmS eaz_RmS
            [(0, false, [C.tr false (eL 11 Rm.cs l.2)]), (0, false, [C.tr false (T.int IntKind.i64 k)])]) -
        (↑l.3.length : Int)) <
    0) then
  some ([(false, [.tr true (T.int IntKind.i64 (-1))])], [(false, []), (false, [])])
 else
 some ([(false, [.tr true (T.int IntKind.i64
  (IntKind.i64.wrap
    (f_szRmS
        (inv okzz_RmS eaz_RmS
          [(0, false, [C.tr false (eL 11 Rm.cs l.2)]), (0, false, [C.tr false (T.int IntKind.i64 k)])]) -
      (↑l.3.length : Int))))])], [(false, []), (false, [])])) := by kernel_rfl
theorem body_SzMl (l : Ml) (k : Int) (n : Nat) (h : ok_SzMl (l, k)) : body prog (tabS [(i_szRmS, e_szRmS), (i_szLI, e_szLI)]) kp_SzMl n F_SzMl (ea_SzMl (l, k)) = some (erI 2 (f_SzMl (l, k))) := by
  have hzm := zm
  have hlm := lm
  obtain ⟨hz, hk0, hk1⟩ := h
  dsimp only at hz hk0 hk1
  have z0 : okz_RmS l.rooms := hz.1
  have z1 : okz_LI l.log := hz.2
  have hn : n_Ml l = n_RmS l.rooms + l.log.length := rfl
  unfold ea_SzMl f_SzMl
  dsimp only
  rw [pre_SzMl]
  have y0 : okzz_RmS (l.rooms, k) := ⟨z0, by dsimp only; omega, by dsimp only; omega⟩
  simp only [lt_d, ge0_d, Int.toNat_natCast, blt_d, ble_self, beq_self, decide_true, cond_true, Bool.and_self, Bool.and_true, Bool.true_and, gd_true, Nat.zero_add, List.getD_cons_zero, List.getD_cons_succ, isI_int, toI_int, isB_bool, toB_bool, eL_T, arr_ln, arr_fn, arr_wd, arr_is, arr_get, Ml.cs, dm_szRmS y0, iv_szRmS y0]
  by_cases e0 : (n_RmS l.rooms : Int) ≤ k
  case neg =>
    simp only [n_szRmS e0]
    rw [if_neg (by omega)]
    simp only [decide_eq_true (show (-1 : Int) < 0 by omega), cond_true]
    rfl
  simp only [y_szRmS e0]
  simp (disch := omega) only [decide_eq_false (show ¬ k - (n_RmS l.rooms : Int) < 0 by omega), cond_false, wrapI]
  have y1 : l.log.length ≤ ZM := z1
  try simp (disch := omega) only [wrapI]
  by_cases e1 : k - (n_RmS l.rooms : Int) - (l.log.length : Int) < 0
  · rw [if_neg (by omega)]
    simp only [decide_eq_true e1, cond_true]
    rfl
  simp (disch := omega) only [decide_eq_false e1, cond_false, wrapI]
  rw [if_pos (by omega), show k - (n_Ml l : Int) = k - (n_RmS l.rooms : Int) - (l.log.length : Int) by omega]
  rfl
theorem s_SzMl : EntOk prog i_SzMl e_SzMl := ent_ok ea_SzMl_inj fun x hx =>
  body_sound (φ := (tabS [(i_szRmS, e_szRmS), (i_szLI, e_szLI)])) (tabS_cons s_szRmS (tabS_cons s_szLI tabS_nil)) mixed (kp := kp_SzMl) (n := 0) func12 (c := bodyOf F_SzMl) (by kernel_rfl) (body_SzMl x.1 x.2 (0) hx) (name_ok (by kernel_rfl))
theorem y_SzMl {l : Ml} {k : Int} (h : (n_Ml l : Int) ≤ k) : f_SzMl (l, k) = k - n_Ml l := if_pos h
theorem n_SzMl {l : Ml} {k : Int} (h : ¬ (n_Ml l : Int) ≤ k) : f_SzMl (l, k) = -1 := if_neg h
theorem okn_Ml {l : Ml} (h : (n_Ml l : Int) ≤ 1048576) : ok_ToMl l ∧ okq_Ml l := ⟨⟨(okn_RmS (l := l.rooms) (by have : n_Ml l = n_RmS l.rooms + n_LI l.log := rfl; omega)).1, (okn_LI (l := l.log) (by have : n_Ml l = n_RmS l.rooms + n_LI l.log := rfl; omega)).1⟩, ⟨(okn_RmS (l := l.rooms) (by have : n_Ml l = n_RmS l.rooms + n_LI l.log := rfl; omega)).2, (okn_LI (l := l.log) (by have : n_Ml l = n_RmS l.rooms + n_LI l.log := rfl; omega)).2⟩⟩
end Go.Mach.F
namespace Go.Mach.F
open Go Go.Mach Go.Proofs.Try
--=set_option maxRecDepth 100000
def i_mkMl : Nat := 18
noncomputable abbrev F_mkMl : Func := f18
def kp_mkMl : List (Nat × List Nat) := [(0, [4, 8, 9, 2]), (1, [4, 8, 9, 2]), (2, [4, 2]), (3, [16, 2])]
noncomputable def e_mkMl : Ent := inl [1, 0] prog (tabS [(i_mkRmS, e_mkRmS), (i_mkLI, e_mkLI)]) kp_mkMl 0 F_mkMl
theorem s_mkMl : EntOk prog i_mkMl e_mkMl := inl_ok (tabS_cons s_mkRmS (tabS_cons s_mkLI tabS_nil)) mixed (c := bodyOf F_mkMl) func18 (by kernel_rfl) (name_ok (by kernel_rfl))
end Go.Mach.F
namespace Go.Mach.F
open Go Go.Mach Go.Proofs.Try
theorem cntL_mono {α : Type} {c c' : α → Nat} (h : ∀ x, c x ≤ c' x) : ∀ l : List α, cntL c l ≤ cntL c' l
  | [] => Nat.le_refl _
  | x :: l => by
    have := cntL_mono h l
    have := h x
    unfold cntL
    omega
theorem cntL_fm (p : Rm → Bool) (g : Rm → Rm) (h : ∀ x, n1_RmS (g x) ≤ n1_RmS x) : ∀ l : List Rm, cntL n1_RmS ((l.filter p).map g) ≤ cntL n1_RmS l
  | [] => Nat.le_refl _
  | x :: l => by
    have ih := cntL_fm p g h l
    have hx := h x
    rw [List.filter_cons]
    cases p x with
    | true =>
      simp only [ite_true, List.map_cons, cntL]
      omega
    | false =>
      simp only [Bool.false_eq_true, ite_false]
      have : cntL n1_RmS (x :: l) = n1_RmS x + cntL n1_RmS l := rfl
      omega
theorem allK_len : ∀ l : List Rm, (allK l).length ≤ cntL n1_RmS l
  | [] => Nat.le_refl _
  | x :: l => by
    have ih := allK_len l
    have e : allK (x :: l) = x.kids ++ allK l := rfl
    have e2 : cntL n1_RmS (x :: l) = n1_RmS x + cntL n1_RmS l := rfl
    have e3 : n1_RmS x = x.kids.length + n_SfS x.things + n_LI x.tags := rfl
    rw [e, List.length_append, e2]
    omega
theorem give_ok {m : Ml} (g : ok_RmS m.rooms ∧ ok_LI m.log) (e : (n_Ml m : Int) ≤ 1048576) : ok_RmS m.rooms ∧ ok_LI m.log ∧ (allK m.rooms).length < LM ∧ cntL (fun r => r.tags.length) m.rooms ≤ LM := by
  have hlm := lm
  have h1 := allK_len m.rooms
  have h2 := cntL_mono (c := fun r : Rm => r.tags.length) (c' := n1_RmS) (fun x => by unfold n1_RmS n_LI; omega) m.rooms
  have h3 : n_Ml m = m.rooms.length + cntL n1_RmS m.rooms + n_LI m.log := rfl
  exact ⟨g.1, g.2, by omega, by omega⟩
theorem givR_n1 (h : Hd) (w : Bool) (x : Rm) : n1_RmS (givR h w x) ≤ n1_RmS x := by
  by_cases e : x.h = h
  · rw [givR_at e]
    exact Nat.zero_le _
  · rw [givR_off e]
    cases w with
    | false => exact Nat.le_refl _
    | true =>
      have := List.length_filter_le (fun y => !decide (y = h)) x.kids
      unfold n1_RmS n_HdS
      dsimp only [cond_true]
      omega
theorem givR_okq {h : Hd} {w : Bool} {x : Rm} (q : okq_HdS x.kids ∧ okq_SfS x.things ∧ okq_LI x.tags) : okq_HdS (givR h w x).kids ∧ okq_SfS (givR h w x).things ∧ okq_LI (givR h w x).tags := by
  by_cases e : x.h = h
  · rw [givR_at e]
    exact ⟨⟨Nat.zero_le _, fun _ _ => trivial⟩, ⟨Nat.zero_le _, fun _ hx => by cases hx⟩, Nat.zero_le _⟩
  · rw [givR_off e]
    cases w with
    | false => exact q
    | true => exact ⟨⟨Nat.le_trans (List.length_filter_le _ _) q.1.1, fun _ _ => trivial⟩, q.2⟩
theorem givM_ok {m : Ml} {h : Hd} {w : Bool} (hq : okq_RmS m.rooms) (hl : okq_LI m.log) (hn : (n_Ml m : Int) ≤ 1048576) : (okq_RmS (givM m h w).1.rooms ∧ okq_LI (givM m h w).1.log) ∧ n_RmS (givM m h w).1.rooms ≤ n_RmS m.rooms ∧ n_LI (givM m h w).1.log ≤ n_LI m.log + n_RmS m.rooms := by
  have hbm := bm
  have h3 : n_Ml m = m.rooms.length + cntL n1_RmS m.rooms + n_LI m.log := rfl
  have h5 : n_RmS m.rooms = m.rooms.length + cntL n1_RmS m.rooms := rfl
  unfold givM
  by_cases e : (rsv m h).2 = 0
  · simp only [e, decide_true, cond_true]
    have hgp := gatH_inv m.rooms h (givN m) h ([], []) 0 ⟨⟨List.nodup_nil, fun x hx => by cases hx⟩, Nat.zero_le _, Nat.zero_le _⟩ (.inl rfl)
    have htl := Nat.le_trans hgp.2.1 (sumL_le m.rooms hgp.1.nd)
    have h2 := cntL_mono (c := fun r : Rm => r.tags.length) (c' := n1_RmS) (fun x => by unfold n1_RmS n_LI; omega) m.rooms
    obtain ⟨a, ha⟩ : ∃ a, a = gatH (givN m) m.rooms h ([], []) := ⟨_, rfl⟩
    rw [← ha] at htl ⊢
    obtain ⟨p, hp⟩ : ∃ p : Rm → Bool, p = fun r => !gvK ⟨a.1, w, h⟩ r := ⟨_, rfl⟩
    rw [← hp]
    have h4 := cntL_fm p (givR h w) (givR_n1 h w) m.rooms
    have h6 : ((m.rooms.filter p).map (givR h w)).length ≤ m.rooms.length := by rw [List.length_map]; exact List.length_filter_le _ _
    have h7 : n_LI (m.log ++ a.2) = n_LI m.log + a.2.length := by unfold n_LI; rw [List.length_append]
    refine ⟨⟨⟨by have := hq.1; omega, fun y hy => ?_⟩, ?_⟩, ?_, ?_⟩
    · obtain ⟨x, hx, rfl⟩ := List.mem_map.1 hy
      exact givR_okq (hq.2 x (List.mem_filter.1 hx).1)
    · show n_LI (m.log ++ a.2) ≤ BM
      omega
    · show ((m.rooms.filter p).map (givR h w)).length + cntL n1_RmS ((m.rooms.filter p).map (givR h w)) ≤ _
      omega
    · omega
  · simp only [e, decide_false, cond_false]
    exact ⟨⟨hq, hl⟩, Nat.le_refl _, Nat.le_add_right _ _⟩
end Go.Mach.F
namespace Go.Mach.F
open Go Go.Mach Go.Proofs.Try
--=set_option maxRecDepth 100000
def ok_hdMl (x : Ml × Int) : Prop := okh_RmS (x.1.rooms, x.2) ∧ okh_LI (x.1.log, x.2 + cntL c1_RmS x.1.rooms)
def ea_hdMl (x : Ml × Int) : List Arg := [aR x.1.cs, aI x.2]
def f_hdMl (x : Ml × Int) : Int := (if x.1.rooms = mk_RmS x.1.rooms (x.2) then (if x.1.log = mk_LI x.1.log (x.2 + cntL c1_RmS x.1.rooms) then x.2 + cntL c1_RmS x.1.rooms + cntL c1_LI x.1.log else -1) else -1)
noncomputable def e_hdMl : Ent := ent [] ok_hdMl ea_hdMl (erI 2) f_hdMl
theorem ea_hdMl_inj (x y : Ml × Int) (h : ea_hdMl x = ea_hdMl y) : x = y := by
  obtain ⟨l1, k1⟩ := x
  obtain ⟨l2, k2⟩ := y
  simp only [ea_hdMl, List.cons.injEq, and_true, true_and] at h
  obtain ⟨e0, e1⟩ := h
  obtain rfl := Ml.cs_ext (aR_inj e0)
  obtain rfl := aI_inj e1
  rfl
theorem dm_hdMl {l : Ml} {k : Int} (h : ok_hdMl (l, k)) : dom ok_hdMl ea_hdMl [(0, true, [C.tr false (T.int IntKind.i64 l.c.chunks), C.tr false (T.int IntKind.i64 l.c.size), C.tr false (T.int IntKind.i64 l.c.slots), C.tr false (T.int IntKind.i64 l.c.tax), C.tr false (T.int IntKind.i64 l.c.slice), C.tr false (T.int IntKind.i64 l.c.gens), C.tr false (T.arr 11 l.rooms.length (atL Rm.cs l.rooms)), C.tr false (T.arr 1 l.log.length (atL rowI l.log))]), (0, false, [C.tr false (T.int IntKind.i64 k)])] = true := dom_ea (ea := ea_hdMl) (x := (l, k)) h
theorem iv_hdMl {l : Ml} {k : Int} (h : ok_hdMl (l, k)) : inv ok_hdMl ea_hdMl [(0, true, [C.tr false (T.int IntKind.i64 l.c.chunks), C.tr false (T.int IntKind.i64 l.c.size), C.tr false (T.int IntKind.i64 l.c.slots), C.tr false (T.int IntKind.i64 l.c.tax), C.tr false (T.int IntKind.i64 l.c.slice), C.tr false (T.int IntKind.i64 l.c.gens), C.tr false (T.arr 11 l.rooms.length (atL Rm.cs l.rooms)), C.tr false (T.arr 1 l.log.length (atL rowI l.log))]), (0, false, [C.tr false (T.int IntKind.i64 k)])] = (l, k) := inv_ea ea_hdMl_inj (x := (l, k)) h
def i_hdMl : Nat := 19
noncomputable abbrev F_hdMl : Func := f19
def kp_hdMl : List (Nat × List Nat) := [(0, [4, 8, 9]), (1, [4, 8, 9]), (2, [4, 8, 9, 40]), (3, [16]), (4, [4]), (5, [4, 64]), (6, [16]), (7, [16])]
theorem pre_hdMl (l : Ml) (k : Int) (n : Nat) : body prog (tabS [(i_hdRmS, e_hdRmS), (i_hdLI, e_hdLI)]) kp_hdMl n F_hdMl [aR l.cs, aI k] = (
 entK okh_RmS eah_RmS (f_hdRmS) [(0, false, [C.tr false (eL 11 Rm.cs l.2)]), (0, false, [C.tr false (T.int IntKind.i64 k)])] fun (r1 : Int) =>
 bif decide (r1 < 0) then
  some ([(false, [.tr true (T.int IntKind.i64 (-1))])], [(false, []), (false, [])])
 else
 entK okh_LI eah_LI (f_hdLI) [(0, false, [C.tr false (eL 1 rowI l.3)]), (0, false, [C.tr false (T.int IntKind.i64 r1)])] fun (r2 : Int) =>
 bif decide (r2 < 0) then
  some ([(false, [.tr true (T.int IntKind.i64 (-1))])], [(false, []), (false, [])])
 else
 some ([(false, [.tr true (T.int IntKind.i64 r2)])], [(false, []), (false, [])])) := by kernel_rfl
theorem body_hdMl (l : Ml) (k : Int) (n : Nat) (h : ok_hdMl (l, k)) : body prog (tabS [(i_hdRmS, e_hdRmS), (i_hdLI, e_hdLI)]) kp_hdMl n F_hdMl (ea_hdMl (l, k)) = some (erI 2 (f_hdMl (l, k))) := by
  have hbm := bm
  have y0 : okh_RmS (l.rooms, k) := h.1
  have z0 := y0.2.1
  have w0 := y0.2.2
  dsimp only at z0 w0
  have y1 : okh_LI (l.log, k + cntL c1_RmS l.rooms) := h.2
  have z1 := y1.2.1
  have w1 := y1.2.2
  dsimp only at z1 w1
  unfold ea_hdMl f_hdMl
  try dsimp only
  rw [pre_hdMl]
  simp only [lt_d, ge0_d, Int.toNat_natCast, blt_d, ble_self, beq_self, decide_true, cond_true, Bool.and_self, Bool.and_true, Bool.true_and, gd_true, Nat.zero_add, List.getD_cons_zero, List.getD_cons_succ, isI_int, toI_int, isB_bool, toB_bool, eL_T, arr_ln, arr_fn, arr_wd, arr_is, arr_get, eL_T, Ml.cs]
  rw [entK_of (dm_hdRmS y0) (iv_hdRmS y0)]
  by_cases e0 : l.rooms = mk_RmS l.rooms (k)
  case neg =>
    simp only [n_hdRmS e0, if_neg e0, decide_eq_true (show (-1 : Int) < 0 by omega), cond_true]
    rfl
  rw [y_hdRmS e0, if_pos e0]
  simp only [lt_d, ge0_d, Int.toNat_natCast, blt_d, ble_self, beq_self, decide_true, cond_true, Bool.and_self, Bool.and_true, Bool.true_and, gd_true, Nat.zero_add, List.getD_cons_zero, List.getD_cons_succ, isI_int, toI_int, isB_bool, toB_bool, eL_T, arr_ln, arr_fn, arr_wd, arr_is, arr_get, decide_eq_false (show ¬ k + (cntL c1_RmS l.rooms : Int) < 0 by omega), cond_false]
  rw [entK_of (dm_hdLI y1) (iv_hdLI y1)]
  by_cases e1 : l.log = mk_LI l.log (k + cntL c1_RmS l.rooms)
  case neg =>
    simp only [n_hdLI e1, if_neg e1, decide_eq_true (show (-1 : Int) < 0 by omega), cond_true]
    rfl
  rw [y_hdLI e1, if_pos e1]
  simp only [lt_d, ge0_d, Int.toNat_natCast, blt_d, ble_self, beq_self, decide_true, cond_true, Bool.and_self, Bool.and_true, Bool.true_and, gd_true, Nat.zero_add, List.getD_cons_zero, List.getD_cons_succ, isI_int, toI_int, isB_bool, toB_bool, eL_T, arr_ln, arr_fn, arr_wd, arr_is, arr_get, decide_eq_false (show ¬ k + cntL c1_RmS l.rooms + (cntL c1_LI l.log : Int) < 0 by omega), cond_false]
  try rfl
theorem s_hdMl : EntOk prog i_hdMl e_hdMl := ent_ok ea_hdMl_inj fun x hx =>
  body_sound (φ := (tabS [(i_hdRmS, e_hdRmS), (i_hdLI, e_hdLI)])) (tabS_cons s_hdRmS (tabS_cons s_hdLI tabS_nil)) mixed (kp := kp_hdMl) (n := 0) func19 (c := bodyOf F_hdMl) (by kernel_rfl) (body_hdMl x.1 x.2 (0) hx) (name_ok (by kernel_rfl))
end Go.Mach.F
section
set_option maxRecDepth 100000
set_option maxHeartbeats 4000000
namespace Go.Mach.F
open Go Go.Mach Go.Proofs.Try
def i_xEagerGive : Nat := 3
noncomputable abbrev F_xEagerGive : Func := f3
def kp_xEagerGive : List (Nat × List Nat) := [(0, [8, 12, 13, 16, 17, 32, 33, 44, 45, 92, 116, 120, 136, 156, 160, 188, 192, 196, 248, 252, 256, 260, 272, 276, 280, 388, 392, 396]), (1, [8, 12, 13, 16, 17, 28, 32, 33, 44, 45, 92, 116, 120, 136, 156, 160, 188, 192, 196, 248, 252, 256, 260, 272, 276, 280, 388, 392, 396]), (2, [8, 12, 13, 16, 17, 28, 32, 33, 44, 45, 92, 116, 120, 136, 156, 160, 188, 192, 196, 248, 252, 256, 260, 272, 276, 280, 388, 392, 396]), (3, [8, 12, 13, 16, 17, 32, 33, 44, 45, 88, 92, 116, 120, 136, 156, 160, 188, 192, 196, 248, 252, 256, 260, 272, 276, 280, 388, 392, 396]), (4, [24]), (5, [8, 12, 13, 16, 17, 32, 33, 36, 44, 45, 92, 116, 120, 136, 156, 160, 188, 192, 196, 248, 252, 256, 260, 272, 276, 280, 388, 392, 396]), (6, [8, 12, 13, 16, 17, 32, 33, 36, 40, 41, 44, 45, 92, 116, 120, 132, 136, 156, 160, 188, 192, 196, 248, 252, 256, 260, 272, 276, 280, 388, 392, 396]), (7, [8, 12, 13, 16, 17, 32, 33, 36, 40, 41, 44, 45, 48, 92, 116, 120, 132, 136, 156, 160, 188, 192, 196, 248, 252, 256, 260, 272, 276, 280, 388, 392, 396]), (8, [8, 12, 13, 16, 17, 32, 33, 36, 40, 41, 44, 45, 48, 92, 116, 120, 132, 136, 156, 160, 200, 248, 252, 256, 260, 272, 276, 280, 388, 392, 396]), (9, [24]), (10, [8, 12, 13, 16, 17, 32, 33, 36, 40, 41, 44, 45, 48, 92, 116, 120, 132, 136, 156, 160, 220, 248, 252, 256, 260, 272, 276, 280, 388, 392, 396]), (11, [24]), (12, [8, 12, 13, 16, 17, 32, 33, 36, 40, 41, 44, 45, 48, 52, 92, 116, 120, 132, 136, 156, 160, 248, 252, 256, 260, 272, 276, 280, 388, 392, 396]), (13, [8, 12, 13, 16, 17, 32, 33, 36, 44, 45, 48, 52, 92, 116, 120, 136, 156, 160, 248, 252, 256, 260, 272, 276, 280, 388, 392, 396]), (14, [8, 12, 13, 16, 17, 32, 33, 36, 44, 45, 92, 116, 120, 136, 156, 160, 284, 388, 392, 396]), (15, [24]), (16, [8, 12, 13, 16, 17, 32, 33, 36, 44, 45, 56, 92, 116, 120, 136, 156, 160, 388, 392, 396]), (17, [8, 12, 13, 16, 17, 32, 33, 36, 44, 45, 56, 92, 116, 120, 136, 156, 160, 388, 392, 396]), (18, [8, 12, 13, 16, 17, 32, 33, 36, 44, 45, 56, 60, 92, 116, 120, 136, 156, 160, 388, 392, 396]), (19, [8, 12, 13, 16, 17, 32, 33, 36, 44, 45, 56, 60, 92, 116, 120, 136, 156, 160, 388, 392, 396]), (20, [8, 12, 13, 16, 17, 32, 33, 36, 44, 45, 56, 60, 92, 116, 120, 136, 156, 160, 316, 388, 392, 396]), (21, [24]), (22, [8, 12, 13, 16, 17, 32, 33, 36, 44, 45, 56, 92, 116, 120, 136, 156, 160, 328, 388, 392, 396]), (23, [24]), (24, [32, 33, 36, 44, 45, 56, 64, 65, 68, 92, 116, 120, 136, 156, 160, 332, 356, 360, 388, 392, 396]), (25, [44, 45, 56, 136, 156, 160, 400]), (26, [24]), (27, [44, 45, 56, 60, 136, 156, 160]), (28, [56, 60]), (29, [56, 60, 420]), (30, [24]), (31, [432]), (32, [24]), (33, [24])]
def sq_xEagerGive_0 (m : Ml) (h : Hd) (w : Bool) : St := initA 109 0 [aR m.cs, aR h.cs, aB w]
def ce_xEagerGive_0 (m : Ml) : Nat × Ct := (13, ⟨z0, [(true, [.tr true (T.int IntKind.i64 m.c.1), .tr true (T.int IntKind.i64 m.c.2), .tr true (T.int IntKind.i64 m.c.3), .tr true (T.int IntKind.i64 m.c.4), .tr true (T.int IntKind.i64 m.c.5), .tr true (T.int IntKind.i64 m.c.6), .tr false (eL 11 Rm.cs m.2), .tr false (eL 1 rowI m.3)])]⟩)
def sq_xEagerGive_1 (m : Ml) (h : Hd) (w : Bool) : St := [(8, ⟨z0, [(false, [.tr true (T.bool w)])]⟩), (12, ⟨z0, [(false, [(C.pt (Pt.ptr 13 0 [] 8 0 0))])]⟩), (ce_xEagerGive_0 m), (16, ⟨z0, [(false, [(C.pt (Pt.ptr 17 0 [] 2 0 0))])]⟩), (17, ⟨z0, [(true, [.tr true (T.int IntKind.i64 h.1), .tr true (T.int IntKind.i64 h.2)])]⟩)]
theorem sg_xEagerGive_0 (m : Ml) (h : Hd) (w : Bool) (n : Nat) (K : Ex → St → Res) : atP prog (tabS [(i_SzMl, e_SzMl), (i_ToMl, e_ToMl), (i_toHd, e_toHd), (i_sEagerGive, e_sEagerGive), (i_iEagerGive, e_iEagerGive), (i_EqMl, e_EqMl), (i_mkMl, e_mkMl), (i_hdMl, e_hdMl)]) kp_xEagerGive F_xEagerGive [0] n (sq_xEagerGive_0 m h w) K = (
 K .normal (sq_xEagerGive_1 m h w)) := by kernel_rfl
def sq_xEagerGive_2 (m : Ml) (h : Hd) (w : Bool) : St := [(8, ⟨z0, [(false, [.tr true (T.bool w)])]⟩), (12, ⟨z0, [(false, [(C.pt (Pt.ptr 13 0 [] 8 0 0))])]⟩), (ce_xEagerGive_0 m), (16, ⟨z0, [(false, [(C.pt (Pt.ptr 17 0 [] 2 0 0))])]⟩), (17, ⟨z0, [(true, [.tr true (T.int IntKind.i64 h.1), .tr true (T.int IntKind.i64 h.2)])]⟩), (28, ⟨z0, [(false, [.tr true (T.int IntKind.i64 1048576)])]⟩)]
theorem sg_xEagerGive_1 (m : Ml) (h : Hd) (w : Bool) (n : Nat) (K : Ex → St → Res) : atP prog (tabS [(i_SzMl, e_SzMl), (i_ToMl, e_ToMl), (i_toHd, e_toHd), (i_sEagerGive, e_sEagerGive), (i_iEagerGive, e_iEagerGive), (i_EqMl, e_EqMl), (i_mkMl, e_mkMl), (i_hdMl, e_hdMl)]) kp_xEagerGive F_xEagerGive [1, 0] n (sq_xEagerGive_1 m h w) K = (
 K .normal (sq_xEagerGive_2 m h w)) := by kernel_rfl
def sq_xEagerGive_3 (m : Ml) (h : Hd) (w : Bool) (r1 : Int) : St := [(8, ⟨z0, [(false, [.tr true (T.bool w)])]⟩), (12, ⟨z0, [(false, [(C.pt (Pt.ptr 13 0 [] 8 0 0))])]⟩), (ce_xEagerGive_0 m), (16, ⟨z0, [(false, [(C.pt (Pt.ptr 17 0 [] 2 0 0))])]⟩), (17, ⟨z0, [(true, [.tr true (T.int IntKind.i64 h.1), .tr true (T.int IntKind.i64 h.2)])]⟩), (28, ⟨z0, [(false, [.tr true (T.int IntKind.i64 r1)])]⟩)]
theorem sg_xEagerGive_2 (m : Ml) (h : Hd) (w : Bool) (n : Nat) (K : Ex → St → Res) : atP prog (tabS [(i_SzMl, e_SzMl), (i_ToMl, e_ToMl), (i_toHd, e_toHd), (i_sEagerGive, e_sEagerGive), (i_iEagerGive, e_iEagerGive), (i_EqMl, e_EqMl), (i_mkMl, e_mkMl), (i_hdMl, e_hdMl)]) kp_xEagerGive F_xEagerGive [1, 1, 0] n (sq_xEagerGive_2 m h w) K = (
 entK ok_SzMl ea_SzMl (f_SzMl) [(0, true,
    [C.tr false (T.int IntKind.i64 m.c.1), C.tr false (T.int IntKind.i64 m.c.2),
      C.tr false (T.int IntKind.i64 m.c.3), C.tr false (T.int IntKind.i64 m.c.4),
      C.tr false (T.int IntKind.i64 m.c.5), C.tr false (T.int IntKind.i64 m.c.6), C.tr false (eL 11 Rm.cs m.2),
      C.tr false (eL 1 rowI m.3)]),
  (0, false, [C.tr false (T.int IntKind.i64 1048576)])] fun (r1 : Int) =>
 K .normal (sq_xEagerGive_3 m h w r1)) := by kernel_rfl
def sq_xEagerGive_4 (m : Ml) (h : Hd) (w : Bool) : St := [(8, ⟨z0, [(false, [.tr true (T.bool w)])]⟩), (12, ⟨z0, [(false, [(C.pt (Pt.ptr 13 0 [] 8 0 0))])]⟩), (ce_xEagerGive_0 m), (16, ⟨z0, [(false, [(C.pt (Pt.ptr 17 0 [] 2 0 0))])]⟩), (17, ⟨z0, [(true, [.tr true (T.int IntKind.i64 h.1), .tr true (T.int IntKind.i64 h.2)])]⟩), (88, ⟨z0, []⟩)]
theorem sg_xEagerGive_3 (m : Ml) (h : Hd) (w : Bool) (r1 : Int) (n : Nat) (K : Ex → St → Res) : atP prog (tabS [(i_SzMl, e_SzMl), (i_ToMl, e_ToMl), (i_toHd, e_toHd), (i_sEagerGive, e_sEagerGive), (i_iEagerGive, e_iEagerGive), (i_EqMl, e_EqMl), (i_mkMl, e_mkMl), (i_hdMl, e_hdMl)]) kp_xEagerGive F_xEagerGive [1, 1, 1, 0] n (sq_xEagerGive_3 m h w r1) K = (
 bif decide (r1 < 0) then
  K .ret [(24, ⟨z0, [(false, [.tr true (T.bool true)])]⟩)]
 else
 K .normal (sq_xEagerGive_4 m h w)) := by kernel_rfl
def ce_xEagerGive_1 (r3 : Ml × Int) : Nat × Ct := (33, ⟨z0, [(true, [.tr true (T.int IntKind.i64 r3.fst.c.1), .tr true (T.int IntKind.i64 r3.fst.c.2), .tr true (T.int IntKind.i64 r3.fst.c.3), .tr true (T.int IntKind.i64 r3.fst.c.4), .tr true (T.int IntKind.i64 r3.fst.c.5), .tr true (T.int IntKind.i64 r3.fst.c.6), .tr true (.arr (11) (r3.fst.2.length) ((eL 11 Rm.cs r3.fst.2).fn)), .tr true (.arr (1) (r3.fst.3.length) ((eL 1 rowI r3.fst.3).fn))])]⟩)
def ce_xEagerGive_2 (r3 : Ml × Int) : Nat × Ct := (92, ⟨z0, [(true, [.tr true (T.int IntKind.i64 r3.fst.c.1), .tr true (T.int IntKind.i64 r3.fst.c.2), .tr true (T.int IntKind.i64 r3.fst.c.3), .tr true (T.int IntKind.i64 r3.fst.c.4), .tr true (T.int IntKind.i64 r3.fst.c.5), .tr true (T.int IntKind.i64 r3.fst.c.6), (C.dead), (C.dead)]), (false, [.tr true (T.int IntKind.i64 r3.2)])]⟩)
def ce_xEagerGive_3 (r3 : Ml × Int) : Nat × Ct := (116, ⟨z0, [(true, [.tr true (T.int IntKind.i64 r3.fst.c.1), .tr true (T.int IntKind.i64 r3.fst.c.2), .tr true (T.int IntKind.i64 r3.fst.c.3), .tr true (T.int IntKind.i64 r3.fst.c.4), .tr true (T.int IntKind.i64 r3.fst.c.5), .tr true (T.int IntKind.i64 r3.fst.c.6), .tr true (T.hole), .tr true (T.hole)]), (false, [.tr true (T.int IntKind.i64 r3.2)])]⟩)
def ce_xEagerGive_4 (r3 : Ml × Int) : Nat × Ct := (120, ⟨z0, [(true, [.tr true (T.int IntKind.i64 r3.fst.c.1), .tr true (T.int IntKind.i64 r3.fst.c.2), .tr true (T.int IntKind.i64 r3.fst.c.3), .tr true (T.int IntKind.i64 r3.fst.c.4), .tr true (T.int IntKind.i64 r3.fst.c.5), .tr true (T.int IntKind.i64 r3.fst.c.6), (C.dead), (C.dead)])]⟩)
def sq_xEagerGive_5 (m : Ml) (h : Hd) (w : Bool) (r3 : Ml × Int) : St := [(8, ⟨z0, [(false, [.tr true (T.bool w)])]⟩), (12, ⟨z0, [(false, [(C.pt (Pt.ptr 13 0 [] 8 0 0))])]⟩), (ce_xEagerGive_0 m), (16, ⟨z0, [(false, [(C.pt (Pt.ptr 17 0 [] 2 0 0))])]⟩), (17, ⟨z0, [(true, [.tr true (T.int IntKind.i64 h.1), .tr true (T.int IntKind.i64 h.2)])]⟩), (32, ⟨z0, [(false, [(C.pt (Pt.ptr 33 0 [] 8 0 0))])]⟩), (ce_xEagerGive_1 r3), (36, ⟨z0, [(false, [.tr true (T.int IntKind.i64 r3.2)])]⟩), (ce_xEagerGive_2 r3), (ce_xEagerGive_3 r3), (ce_xEagerGive_4 r3)]
theorem sg_xEagerGive_4 (m : Ml) (h : Hd) (w : Bool) (n : Nat) (K : Ex → St → Res) : atP prog (tabS [(i_SzMl, e_SzMl), (i_ToMl, e_ToMl), (i_toHd, e_toHd), (i_sEagerGive, e_sEagerGive), (i_iEagerGive, e_iEagerGive), (i_EqMl, e_EqMl), (i_mkMl, e_mkMl), (i_hdMl, e_hdMl)]) kp_xEagerGive F_xEagerGive [1, 1, 1, 1, 0] n (sq_xEagerGive_4 m h w) K = (
 entK ok_ToMl ea_ToMl (f_ToMl) [(0, true,
    [C.tr false (T.int IntKind.i64 m.c.1), C.tr false (T.int IntKind.i64 m.c.2),
      C.tr false (T.int IntKind.i64 m.c.3), C.tr false (T.int IntKind.i64 m.c.4),
      C.tr false (T.int IntKind.i64 m.c.5), C.tr false (T.int IntKind.i64 m.c.6), C.tr false (eL 11 Rm.cs m.2),
      C.tr false (eL 1 rowI m.3)])] fun (r2 : Ml) =>
 gd ((0 + r2.2.length).ble r2.2.length) <|
 gd ((0 + r2.3.length).ble r2.3.length) <|
 entK ok_sEagerGive ea_sEagerGive (f_sEagerGive) [(0, true,
    [C.tr false (T.int IntKind.i64 r2.c.1), C.tr false (T.int IntKind.i64 r2.c.2),
      C.tr false (T.int IntKind.i64 r2.c.3), C.tr false (T.int IntKind.i64 r2.c.4),
      C.tr false (T.int IntKind.i64 r2.c.5), C.tr false (T.int IntKind.i64 r2.c.6),
      C.tr false (T.arr 11 r2.2.length (cutT 0 r2.2.length (eL 11 Rm.cs r2.2).fn)),
      C.tr false (T.arr 1 r2.3.length (cutT 0 r2.3.length (eL 1 rowI r2.3).fn))]),
  (0, true, [C.tr false (T.int IntKind.i64 h.1), C.tr false (T.int IntKind.i64 h.2)]),
  (0, false, [C.tr false (T.bool w)])] fun (r3 : Ml × Int) =>
 gd (r3.fst.2.length.ble r3.fst.2.length && true) <|
 gd (r3.fst.3.length.ble r3.fst.3.length && true) <|
 K .normal (sq_xEagerGive_5 m h w r3)) := by kernel_rfl
def ce_xEagerGive_5 (r4 : Ml) : Nat × Ct := (41, ⟨z0, [(true, [.tr true (T.int IntKind.i64 r4.c.1), .tr true (T.int IntKind.i64 r4.c.2), .tr true (T.int IntKind.i64 r4.c.3), .tr true (T.int IntKind.i64 r4.c.4), .tr true (T.int IntKind.i64 r4.c.5), .tr true (T.int IntKind.i64 r4.c.6), .tr true (.arr (11) (r4.2.length) ((eL 11 Rm.cs r4.2).fn)), .tr true (.arr (1) (r4.3.length) ((eL 1 rowI r4.3).fn))])]⟩)
def ce_xEagerGive_6 (r4 : Ml) : Nat × Ct := (132, ⟨z0, [(true, [.tr true (T.int IntKind.i64 r4.c.1), .tr true (T.int IntKind.i64 r4.c.2), .tr true (T.int IntKind.i64 r4.c.3), .tr true (T.int IntKind.i64 r4.c.4), .tr true (T.int IntKind.i64 r4.c.5), .tr true (T.int IntKind.i64 r4.c.6), .tr true (T.hole), .tr true (T.hole)])]⟩)
def sq_xEagerGive_6 (m : Ml) (h : Hd) (w : Bool) (r3 : Ml × Int) (r4 : Ml) : St := [(8, ⟨z0, [(false, [.tr true (T.bool w)])]⟩), (12, ⟨z0, [(false, [(C.pt (Pt.ptr 13 0 [] 8 0 0))])]⟩), (ce_xEagerGive_0 m), (16, ⟨z0, [(false, [(C.pt (Pt.ptr 17 0 [] 2 0 0))])]⟩), (17, ⟨z0, [(true, [.tr true (T.int IntKind.i64 h.1), .tr true (T.int IntKind.i64 h.2)])]⟩), (32, ⟨z0, [(false, [(C.pt (Pt.ptr 33 0 [] 8 0 0))])]⟩), (ce_xEagerGive_1 r3), (36, ⟨z0, [(false, [.tr true (T.int IntKind.i64 r3.2)])]⟩), (40, ⟨z0, [(false, [(C.pt (Pt.ptr 41 0 [] 8 0 0))])]⟩), (ce_xEagerGive_5 r4), (ce_xEagerGive_2 r3), (ce_xEagerGive_3 r3), (ce_xEagerGive_4 r3), (ce_xEagerGive_6 r4)]
theorem sg_xEagerGive_5 (m : Ml) (h : Hd) (w : Bool) (r3 : Ml × Int) (n : Nat) (K : Ex → St → Res) : atP prog (tabS [(i_SzMl, e_SzMl), (i_ToMl, e_ToMl), (i_toHd, e_toHd), (i_sEagerGive, e_sEagerGive), (i_iEagerGive, e_iEagerGive), (i_EqMl, e_EqMl), (i_mkMl, e_mkMl), (i_hdMl, e_hdMl)]) kp_xEagerGive F_xEagerGive [1, 1, 1, 1, 1, 0] n (sq_xEagerGive_5 m h w r3) K = (
 entK ok_ToMl ea_ToMl (f_ToMl) [(0, true,
    [C.tr false (T.int IntKind.i64 m.c.1), C.tr false (T.int IntKind.i64 m.c.2),
      C.tr false (T.int IntKind.i64 m.c.3), C.tr false (T.int IntKind.i64 m.c.4),
      C.tr false (T.int IntKind.i64 m.c.5), C.tr false (T.int IntKind.i64 m.c.6), C.tr false (eL 11 Rm.cs m.2),
      C.tr false (eL 1 rowI m.3)])] fun (r4 : Ml) =>
 gd (r4.2.length.ble r4.2.length && true) <|
 gd (r4.3.length.ble r4.3.length && true) <|
 K .normal (sq_xEagerGive_6 m h w r3 r4)) := by kernel_rfl
def ce_xEagerGive_7 (r5 : Ml × Int) : Nat × Ct := (45, ⟨z0, [(true, [.tr true (T.int IntKind.i64 r5.fst.c.1), .tr true (T.int IntKind.i64 r5.fst.c.2), .tr true (T.int IntKind.i64 r5.fst.c.3), .tr true (T.int IntKind.i64 r5.fst.c.4), .tr true (T.int IntKind.i64 r5.fst.c.5), .tr true (T.int IntKind.i64 r5.fst.c.6), .tr true (.arr (11) (r5.fst.2.length) ((eL 11 Rm.cs r5.fst.2).fn)), .tr true (.arr (1) (r5.fst.3.length) ((eL 1 rowI r5.fst.3).fn))])]⟩)
def ce_xEagerGive_8 (r5 : Ml × Int) : Nat × Ct := (136, ⟨z0, [(true, [.tr true (T.int IntKind.i64 r5.fst.c.1), .tr true (T.int IntKind.i64 r5.fst.c.2), .tr true (T.int IntKind.i64 r5.fst.c.3), .tr true (T.int IntKind.i64 r5.fst.c.4), .tr true (T.int IntKind.i64 r5.fst.c.5), .tr true (T.int IntKind.i64 r5.fst.c.6), (C.dead), (C.dead)]), (false, [.tr true (T.int IntKind.i64 r5.2)])]⟩)
def ce_xEagerGive_9 (r5 : Ml × Int) : Nat × Ct := (156, ⟨z0, [(true, [.tr true (T.int IntKind.i64 r5.fst.c.1), .tr true (T.int IntKind.i64 r5.fst.c.2), .tr true (T.int IntKind.i64 r5.fst.c.3), .tr true (T.int IntKind.i64 r5.fst.c.4), .tr true (T.int IntKind.i64 r5.fst.c.5), .tr true (T.int IntKind.i64 r5.fst.c.6), .tr true (T.hole), .tr true (T.hole)]), (false, [.tr true (T.int IntKind.i64 r5.2)])]⟩)
def ce_xEagerGive_10 (r5 : Ml × Int) : Nat × Ct := (160, ⟨z0, [(true, [.tr true (T.int IntKind.i64 r5.fst.c.1), .tr true (T.int IntKind.i64 r5.fst.c.2), .tr true (T.int IntKind.i64 r5.fst.c.3), .tr true (T.int IntKind.i64 r5.fst.c.4), .tr true (T.int IntKind.i64 r5.fst.c.5), .tr true (T.int IntKind.i64 r5.fst.c.6), (C.dead), (C.dead)])]⟩)
def sq_xEagerGive_7 (m : Ml) (h : Hd) (w : Bool) (r3 : Ml × Int) (r4 : Ml) (r5 : Ml × Int) : St := [(8, ⟨z0, [(false, [.tr true (T.bool w)])]⟩), (12, ⟨z0, [(false, [(C.pt (Pt.ptr 13 0 [] 8 0 0))])]⟩), (ce_xEagerGive_0 m), (16, ⟨z0, [(false, [(C.pt (Pt.ptr 17 0 [] 2 0 0))])]⟩), (17, ⟨z0, [(true, [.tr true (T.int IntKind.i64 h.1), .tr true (T.int IntKind.i64 h.2)])]⟩), (32, ⟨z0, [(false, [(C.pt (Pt.ptr 33 0 [] 8 0 0))])]⟩), (ce_xEagerGive_1 r3), (36, ⟨z0, [(false, [.tr true (T.int IntKind.i64 r3.2)])]⟩), (40, ⟨z0, [(false, [(C.pt (Pt.ptr 41 0 [] 8 0 0))])]⟩), (ce_xEagerGive_5 r4), (44, ⟨z0, [(false, [(C.pt (Pt.ptr 45 0 [] 8 0 0))])]⟩), (ce_xEagerGive_7 r5), (48, ⟨z0, [(false, [.tr true (T.int IntKind.i64 r5.2)])]⟩), (ce_xEagerGive_2 r3), (ce_xEagerGive_3 r3), (ce_xEagerGive_4 r3), (ce_xEagerGive_6 r4), (ce_xEagerGive_8 r5), (ce_xEagerGive_9 r5), (ce_xEagerGive_10 r5)]
theorem sg_xEagerGive_6 (m : Ml) (h : Hd) (w : Bool) (r3 : Ml × Int) (r4 : Ml) (n : Nat) (K : Ex → St → Res) : atP prog (tabS [(i_SzMl, e_SzMl), (i_ToMl, e_ToMl), (i_toHd, e_toHd), (i_sEagerGive, e_sEagerGive), (i_iEagerGive, e_iEagerGive), (i_EqMl, e_EqMl), (i_mkMl, e_mkMl), (i_hdMl, e_hdMl)]) kp_xEagerGive F_xEagerGive [1, 1, 1, 1, 1, 1, 0] n (sq_xEagerGive_6 m h w r3 r4) K = (
 gd ((0 + r4.2.length).ble r4.2.length) <|
 gd ((0 + r4.3.length).ble r4.3.length) <|
 entK ok_iEagerGive ea_iEagerGive (f_iEagerGive) [(0, true,
    [C.tr false (T.int IntKind.i64 r4.c.1), C.tr false (T.int IntKind.i64 r4.c.2),
      C.tr false (T.int IntKind.i64 r4.c.3), C.tr false (T.int IntKind.i64 r4.c.4),
      C.tr false (T.int IntKind.i64 r4.c.5), C.tr false (T.int IntKind.i64 r4.c.6),
      C.tr false (T.arr 11 r4.2.length (cutT 0 r4.2.length (eL 11 Rm.cs r4.2).fn)),
      C.tr false (T.arr 1 r4.3.length (cutT 0 r4.3.length (eL 1 rowI r4.3).fn))]),
  (0, true, [C.tr false (T.int IntKind.i64 h.1), C.tr false (T.int IntKind.i64 h.2)]),
  (0, false, [C.tr false (T.bool w)])] fun (r5 : Ml × Int) =>
 gd (r5.fst.2.length.ble r5.fst.2.length && true) <|
 gd (r5.fst.3.length.ble r5.fst.3.length && true) <|
 K .normal (sq_xEagerGive_7 m h w r3 r4 r5)) := by kernel_rfl
def sq_xEagerGive_8 (m : Ml) (h : Hd) (w : Bool) (r3 : Ml × Int) (r4 : Ml) (r5 : Ml × Int) : St := [(8, ⟨z0, [(false, [.tr true (T.bool w)])]⟩), (12, ⟨z0, [(false, [(C.pt (Pt.ptr 13 0 [] 8 0 0))])]⟩), (ce_xEagerGive_0 m), (16, ⟨z0, [(false, [(C.pt (Pt.ptr 17 0 [] 2 0 0))])]⟩), (17, ⟨z0, [(true, [.tr true (T.int IntKind.i64 h.1), .tr true (T.int IntKind.i64 h.2)])]⟩), (32, ⟨z0, [(false, [(C.pt (Pt.ptr 33 0 [] 8 0 0))])]⟩), (ce_xEagerGive_1 r3), (36, ⟨z0, [(false, [.tr true (T.int IntKind.i64 r3.2)])]⟩), (40, ⟨z0, [(false, [(C.pt (Pt.ptr 41 0 [] 8 0 0))])]⟩), (ce_xEagerGive_5 r4), (44, ⟨z0, [(false, [(C.pt (Pt.ptr 45 0 [] 8 0 0))])]⟩), (ce_xEagerGive_7 r5), (48, ⟨z0, [(false, [.tr true (T.int IntKind.i64 r5.2)])]⟩), (ce_xEagerGive_2 r3), (ce_xEagerGive_3 r3), (ce_xEagerGive_4 r3), (ce_xEagerGive_6 r4), (ce_xEagerGive_8 r5), (ce_xEagerGive_9 r5), (ce_xEagerGive_10 r5), (200, ⟨z0, []⟩)]
theorem sg_xEagerGive_7 (m : Ml) (h : Hd) (w : Bool) (r3 : Ml × Int) (r4 : Ml) (r5 : Ml × Int) (n : Nat) (K : Ex → St → Res) : atP prog (tabS [(i_SzMl, e_SzMl), (i_ToMl, e_ToMl), (i_toHd, e_toHd), (i_sEagerGive, e_sEagerGive), (i_iEagerGive, e_iEagerGive), (i_EqMl, e_EqMl), (i_mkMl, e_mkMl), (i_hdMl, e_hdMl)]) kp_xEagerGive F_xEagerGive [1, 1, 1, 1, 1, 1, 1, 0] n (sq_xEagerGive_7 m h w r3 r4 r5) K = (
 gd ((0 + r5.fst.2.length).ble r5.fst.2.length) <|
 gd ((0 + r5.fst.3.length).ble r5.fst.3.length) <|
 gd ((0 + r3.fst.2.length).ble r3.fst.2.length) <|
 gd ((0 + r3.fst.3.length).ble r3.fst.3.length) <|
 entK ok_EqMl ea_EqMl (f_EqMl) [(0, true,
    [C.tr false (T.int IntKind.i64 r5.fst.c.1), C.tr false (T.int IntKind.i64 r5.fst.c.2),
      C.tr false (T.int IntKind.i64 r5.fst.c.3), C.tr false (T.int IntKind.i64 r5.fst.c.4),
      C.tr false (T.int IntKind.i64 r5.fst.c.5), C.tr false (T.int IntKind.i64 r5.fst.c.6),
      C.tr false (T.arr 11 r5.fst.2.length (cutT 0 r5.fst.2.length (eL 11 Rm.cs r5.fst.2).fn)),
      C.tr false (T.arr 1 r5.fst.3.length (cutT 0 r5.fst.3.length (eL 1 rowI r5.fst.3).fn))]),
  (0, true,
    [C.tr false (T.int IntKind.i64 r3.fst.c.1), C.tr false (T.int IntKind.i64 r3.fst.c.2),
      C.tr false (T.int IntKind.i64 r3.fst.c.3), C.tr false (T.int IntKind.i64 r3.fst.c.4),
      C.tr false (T.int IntKind.i64 r3.fst.c.5), C.tr false (T.int IntKind.i64 r3.fst.c.6),
      C.tr false (T.arr 11 r3.fst.2.length (cutT 0 r3.fst.2.length (eL 11 Rm.cs r3.fst.2).fn)),
      C.tr false (T.arr 1 r3.fst.3.length (cutT 0 r3.fst.3.length (eL 1 rowI r3.fst.3).fn))])] fun (r6 : Bool) =>
 bif !r6 then
  K .ret [(24, ⟨z0, [(false, [.tr true (T.bool false)])]⟩)]
 else
 bif r5.2 != r3.2 then
  K .ret [(24, ⟨z0, [(false, [.tr true (T.bool false)])]⟩)]
 else
 K .normal (sq_xEagerGive_8 m h w r3 r4 r5)) := by kernel_rfl
def sq_xEagerGive_9 (m : Ml) (h : Hd) (w : Bool) (r3 : Ml × Int) (r4 : Ml) (r5 : Ml × Int) : St := [(8, ⟨z0, [(false, [.tr true (T.bool w)])]⟩), (12, ⟨z0, [(false, [(C.pt (Pt.ptr 13 0 [] 8 0 0))])]⟩), (ce_xEagerGive_0 m), (16, ⟨z0, [(false, [(C.pt (Pt.ptr 17 0 [] 2 0 0))])]⟩), (17, ⟨z0, [(true, [.tr true (T.int IntKind.i64 h.1), .tr true (T.int IntKind.i64 h.2)])]⟩), (32, ⟨z0, [(false, [(C.pt (Pt.ptr 33 0 [] 8 0 0))])]⟩), (ce_xEagerGive_1 r3), (36, ⟨z0, [(false, [.tr true (T.int IntKind.i64 r3.2)])]⟩), (40, ⟨z0, [(false, [(C.pt (Pt.ptr 41 0 [] 8 0 0))])]⟩), (ce_xEagerGive_5 r4), (44, ⟨z0, [(false, [(C.pt (Pt.ptr 45 0 [] 8 0 0))])]⟩), (ce_xEagerGive_7 r5), (48, ⟨z0, [(false, [.tr true (T.int IntKind.i64 r5.2)])]⟩), (ce_xEagerGive_2 r3), (ce_xEagerGive_3 r3), (ce_xEagerGive_4 r3), (ce_xEagerGive_6 r4), (ce_xEagerGive_8 r5), (ce_xEagerGive_9 r5), (ce_xEagerGive_10 r5), (220, ⟨z0, []⟩)]
theorem sg_xEagerGive_8 (m : Ml) (h : Hd) (w : Bool) (r3 : Ml × Int) (r4 : Ml) (r5 : Ml × Int) (n : Nat) (K : Ex → St → Res) : atP prog (tabS [(i_SzMl, e_SzMl), (i_ToMl, e_ToMl), (i_toHd, e_toHd), (i_sEagerGive, e_sEagerGive), (i_iEagerGive, e_iEagerGive), (i_EqMl, e_EqMl), (i_mkMl, e_mkMl), (i_hdMl, e_hdMl)]) kp_xEagerGive F_xEagerGive [1, 1, 1, 1, 1, 1, 1, 1, 0] n (sq_xEagerGive_8 m h w r3 r4 r5) K = (
 entK ok_ToMl ea_ToMl (f_ToMl) [(0, true,
    [C.tr false (T.int IntKind.i64 m.c.1), C.tr false (T.int IntKind.i64 m.c.2),
      C.tr false (T.int IntKind.i64 m.c.3), C.tr false (T.int IntKind.i64 m.c.4),
      C.tr false (T.int IntKind.i64 m.c.5), C.tr false (T.int IntKind.i64 m.c.6), C.tr false (eL 11 Rm.cs m.2),
      C.tr false (eL 1 rowI m.3)])] fun (r7 : Ml) =>
 gd ((0 + r4.2.length).ble r4.2.length) <|
 gd ((0 + r4.3.length).ble r4.3.length) <|
 gd ((0 + r7.2.length).ble r7.2.length) <|
 gd ((0 + r7.3.length).ble r7.3.length) <|
 entK ok_EqMl ea_EqMl (f_EqMl) [(0, true,
    [C.tr false (T.int IntKind.i64 r4.c.1), C.tr false (T.int IntKind.i64 r4.c.2),
      C.tr false (T.int IntKind.i64 r4.c.3), C.tr false (T.int IntKind.i64 r4.c.4),
      C.tr false (T.int IntKind.i64 r4.c.5), C.tr false (T.int IntKind.i64 r4.c.6),
      C.tr false (T.arr 11 r4.2.length (cutT 0 r4.2.length (eL 11 Rm.cs r4.2).fn)),
      C.tr false (T.arr 1 r4.3.length (cutT 0 r4.3.length (eL 1 rowI r4.3).fn))]),
  (0, true,
    [C.tr false (T.int IntKind.i64 r7.c.1), C.tr false (T.int IntKind.i64 r7.c.2),
      C.tr false (T.int IntKind.i64 r7.c.3), C.tr false (T.int IntKind.i64 r7.c.4),
      C.tr false (T.int IntKind.i64 r7.c.5), C.tr false (T.int IntKind.i64 r7.c.6),
      C.tr false (T.arr 11 r7.2.length (cutT 0 r7.2.length (eL 11 Rm.cs r7.2).fn)),
      C.tr false (T.arr 1 r7.3.length (cutT 0 r7.3.length (eL 1 rowI r7.3).fn))])] fun (r8 : Bool) =>
 bif !r8 then
  K .ret [(24, ⟨z0, [(false, [.tr true (T.bool false)])]⟩)]
 else
 K .normal (sq_xEagerGive_9 m h w r3 r4 r5)) := by kernel_rfl
def sq_xEagerGive_10 (m : Ml) (h : Hd) (w : Bool) (r3 : Ml × Int) (r4 : Ml) (r5 : Ml × Int) : St := [(8, ⟨z0, [(false, [.tr true (T.bool w)])]⟩), (12, ⟨z0, [(false, [(C.pt (Pt.ptr 13 0 [] 8 0 0))])]⟩), (ce_xEagerGive_0 m), (16, ⟨z0, [(false, [(C.pt (Pt.ptr 17 0 [] 2 0 0))])]⟩), (17, ⟨z0, [(true, [.tr true (T.int IntKind.i64 h.1), .tr true (T.int IntKind.i64 h.2)])]⟩), (32, ⟨z0, [(false, [(C.pt (Pt.ptr 33 0 [] 8 0 0))])]⟩), (ce_xEagerGive_1 r3), (36, ⟨z0, [(false, [.tr true (T.int IntKind.i64 r3.2)])]⟩), (40, ⟨z0, [(false, [(C.pt (Pt.ptr 41 0 [] 8 0 0))])]⟩), (ce_xEagerGive_5 r4), (44, ⟨z0, [(false, [(C.pt (Pt.ptr 45 0 [] 8 0 0))])]⟩), (ce_xEagerGive_7 r5), (48, ⟨z0, [(false, [.tr true (T.int IntKind.i64 r5.2)])]⟩), (52, ⟨z0, [(false, [.tr true (T.int IntKind.i64 1)])]⟩), (ce_xEagerGive_2 r3), (ce_xEagerGive_3 r3), (ce_xEagerGive_4 r3), (ce_xEagerGive_6 r4), (ce_xEagerGive_8 r5), (ce_xEagerGive_9 r5), (ce_xEagerGive_10 r5)]
theorem sg_xEagerGive_9 (m : Ml) (h : Hd) (w : Bool) (r3 : Ml × Int) (r4 : Ml) (r5 : Ml × Int) (n : Nat) (K : Ex → St → Res) : atP prog (tabS [(i_SzMl, e_SzMl), (i_ToMl, e_ToMl), (i_toHd, e_toHd), (i_sEagerGive, e_sEagerGive), (i_iEagerGive, e_iEagerGive), (i_EqMl, e_EqMl), (i_mkMl, e_mkMl), (i_hdMl, e_hdMl)]) kp_xEagerGive F_xEagerGive [1, 1, 1, 1, 1, 1, 1, 1, 1, 0] n (sq_xEagerGive_9 m h w r3 r4 r5) K = (
 K .normal (sq_xEagerGive_10 m h w r3 r4 r5)) := by kernel_rfl
def sq_xEagerGive_11 (m : Ml) (h : Hd) (w : Bool) (r3 : Ml × Int) (r5 : Ml × Int) (r10 : List Int × Int) : St := [(8, ⟨z0, [(false, [.tr true (T.bool w)])]⟩), (12, ⟨z0, [(false, [(C.pt (Pt.ptr 13 0 [] 8 0 0))])]⟩), (ce_xEagerGive_0 m), (16, ⟨z0, [(false, [(C.pt (Pt.ptr 17 0 [] 2 0 0))])]⟩), (17, ⟨z0, [(true, [.tr true (T.int IntKind.i64 h.1), .tr true (T.int IntKind.i64 h.2)])]⟩), (32, ⟨z0, [(false, [(C.pt (Pt.ptr 33 0 [] 8 0 0))])]⟩), (ce_xEagerGive_1 r3), (36, ⟨z0, [(false, [.tr true (T.int IntKind.i64 r3.2)])]⟩), (44, ⟨z0, [(false, [(C.pt (Pt.ptr 45 0 [] 8 0 0))])]⟩), (ce_xEagerGive_7 r5), (48, ⟨z0, [(false, [.tr true (T.int IntKind.i64 r5.2)])]⟩), (52, ⟨z0, [(false, [.tr true (T.int IntKind.i64 (f_ctLI r10))])]⟩), (ce_xEagerGive_2 r3), (ce_xEagerGive_3 r3), (ce_xEagerGive_4 r3), (ce_xEagerGive_8 r5), (ce_xEagerGive_9 r5), (ce_xEagerGive_10 r5)]
theorem sg_xEagerGive_10 (m : Ml) (h : Hd) (w : Bool) (r3 : Ml × Int) (r4 : Ml) (r5 : Ml × Int) (n : Nat) (K : Ex → St → Res) : atP prog (tabS [(i_SzMl, e_SzMl), (i_ToMl, e_ToMl), (i_toHd, e_toHd), (i_sEagerGive, e_sEagerGive), (i_iEagerGive, e_iEagerGive), (i_EqMl, e_EqMl), (i_mkMl, e_mkMl), (i_hdMl, e_hdMl)]) kp_xEagerGive F_xEagerGive [1, 1, 1, 1, 1, 1, 1, 1, 1, 1, 0] n (sq_xEagerGive_10 m h w r3 r4 r5) K = (
 gd (r4.2.length.beq r4.2.length && true) <|
 gd (r4.3.length.beq r4.3.length && true) <|
 gd (r4.2.length.beq r4.2.length && true) <|
 entK okh_RmS eam_RmS (fun x => x) [(1, false, [C.tr true (T.arr 11 r4.2.length (eL 11 Rm.cs r4.2).fn)]),
  (0, false, [C.tr false (T.int IntKind.i64 1)])] fun (r9 : List Rm × Int) =>
 gd (r4.2.length.beq (f_mkRmS r9).length && true) <|
 gd (r4.3.length.beq r4.3.length && true) <|
 entK okh_LI eam_LI (fun x => x) [(1, false, [C.tr true (T.arr 1 r4.3.length (eL 1 rowI r4.3).fn)]),
  (0, false, [C.tr false (T.int IntKind.i64 (f_ctRmS r9))])] fun (r10 : List Int × Int) =>
 gd (r4.3.length.beq (f_mkLI r10).length && true) <|
 gd (r4.2.length.beq (f_mkRmS r9).length && true) <|
 gd (r4.3.length.beq (f_mkLI r10).length && true) <|
 K .normal (sq_xEagerGive_11 m h w r3 r5 r10)) := by kernel_rfl
def sq_xEagerGive_12 (m : Ml) (h : Hd) (w : Bool) (r3 : Ml × Int) (r5 : Ml × Int) : St := [(8, ⟨z0, [(false, [.tr true (T.bool w)])]⟩), (12, ⟨z0, [(false, [(C.pt (Pt.ptr 13 0 [] 8 0 0))])]⟩), (ce_xEagerGive_0 m), (16, ⟨z0, [(false, [(C.pt (Pt.ptr 17 0 [] 2 0 0))])]⟩), (17, ⟨z0, [(true, [.tr true (T.int IntKind.i64 h.1), .tr true (T.int IntKind.i64 h.2)])]⟩), (32, ⟨z0, [(false, [(C.pt (Pt.ptr 33 0 [] 8 0 0))])]⟩), (ce_xEagerGive_1 r3), (36, ⟨z0, [(false, [.tr true (T.int IntKind.i64 r3.2)])]⟩), (44, ⟨z0, [(false, [(C.pt (Pt.ptr 45 0 [] 8 0 0))])]⟩), (ce_xEagerGive_7 r5), (ce_xEagerGive_2 r3), (ce_xEagerGive_3 r3), (ce_xEagerGive_4 r3), (ce_xEagerGive_8 r5), (ce_xEagerGive_9 r5), (ce_xEagerGive_10 r5), (284, ⟨z0, []⟩)]
theorem sg_xEagerGive_11 (m : Ml) (h : Hd) (w : Bool) (r3 : Ml × Int) (r5 : Ml × Int) (r10 : List Int × Int) (n : Nat) (K : Ex → St → Res) : atP prog (tabS [(i_SzMl, e_SzMl), (i_ToMl, e_ToMl), (i_toHd, e_toHd), (i_sEagerGive, e_sEagerGive), (i_iEagerGive, e_iEagerGive), (i_EqMl, e_EqMl), (i_mkMl, e_mkMl), (i_hdMl, e_hdMl)]) kp_xEagerGive F_xEagerGive [1, 1, 1, 1, 1, 1, 1, 1, 1, 1, 1, 0] n (sq_xEagerGive_11 m h w r3 r5 r10) K = (
 bif decide (f_ctLI r10 < 0) then
  K .ret [(24, ⟨z0, [(false, [.tr true (T.bool false)])]⟩)]
 else
 gd ((0 + r5.fst.2.length).ble r5.fst.2.length) <|
 gd ((0 + r5.fst.3.length).ble r5.fst.3.length) <|
 gd ((0 + r3.fst.2.length).ble r3.fst.2.length) <|
 gd ((0 + r3.fst.3.length).ble r3.fst.3.length) <|
 entK ok_EqMl ea_EqMl (f_EqMl) [(0, true,
    [C.tr false (T.int IntKind.i64 r5.fst.c.1), C.tr false (T.int IntKind.i64 r5.fst.c.2),
      C.tr false (T.int IntKind.i64 r5.fst.c.3), C.tr false (T.int IntKind.i64 r5.fst.c.4),
      C.tr false (T.int IntKind.i64 r5.fst.c.5), C.tr false (T.int IntKind.i64 r5.fst.c.6),
      C.tr false (T.arr 11 r5.fst.2.length (cutT 0 r5.fst.2.length (eL 11 Rm.cs r5.fst.2).fn)),
      C.tr false (T.arr 1 r5.fst.3.length (cutT 0 r5.fst.3.length (eL 1 rowI r5.fst.3).fn))]),
  (0, true,
    [C.tr false (T.int IntKind.i64 r3.fst.c.1), C.tr false (T.int IntKind.i64 r3.fst.c.2),
      C.tr false (T.int IntKind.i64 r3.fst.c.3), C.tr false (T.int IntKind.i64 r3.fst.c.4),
      C.tr false (T.int IntKind.i64 r3.fst.c.5), C.tr false (T.int IntKind.i64 r3.fst.c.6),
      C.tr false (T.arr 11 r3.fst.2.length (cutT 0 r3.fst.2.length (eL 11 Rm.cs r3.fst.2).fn)),
      C.tr false (T.arr 1 r3.fst.3.length (cutT 0 r3.fst.3.length (eL 1 rowI r3.fst.3).fn))])] fun (r11 : Bool) =>
 bif !r11 then
  K .ret [(24, ⟨z0, [(false, [.tr true (T.bool false)])]⟩)]
 else
 bif r5.2 != r3.2 then
  K .ret [(24, ⟨z0, [(false, [.tr true (T.bool false)])]⟩)]
 else
 K .normal (sq_xEagerGive_12 m h w r3 r5)) := by kernel_rfl
def sq_xEagerGive_13 (m : Ml) (h : Hd) (w : Bool) (r3 : Ml × Int) (r5 : Ml × Int) : St := [(8, ⟨z0, [(false, [.tr true (T.bool w)])]⟩), (12, ⟨z0, [(false, [(C.pt (Pt.ptr 13 0 [] 8 0 0))])]⟩), (ce_xEagerGive_0 m), (16, ⟨z0, [(false, [(C.pt (Pt.ptr 17 0 [] 2 0 0))])]⟩), (17, ⟨z0, [(true, [.tr true (T.int IntKind.i64 h.1), .tr true (T.int IntKind.i64 h.2)])]⟩), (32, ⟨z0, [(false, [(C.pt (Pt.ptr 33 0 [] 8 0 0))])]⟩), (ce_xEagerGive_1 r3), (36, ⟨z0, [(false, [.tr true (T.int IntKind.i64 r3.2)])]⟩), (44, ⟨z0, [(false, [(C.pt (Pt.ptr 45 0 [] 8 0 0))])]⟩), (ce_xEagerGive_7 r5), (56, ⟨z0, [(false, [.tr true (T.int IntKind.i64 1)])]⟩), (ce_xEagerGive_2 r3), (ce_xEagerGive_3 r3), (ce_xEagerGive_4 r3), (ce_xEagerGive_8 r5), (ce_xEagerGive_9 r5), (ce_xEagerGive_10 r5)]
theorem sg_xEagerGive_12 (m : Ml) (h : Hd) (w : Bool) (r3 : Ml × Int) (r5 : Ml × Int) (n : Nat) (K : Ex → St → Res) : atP prog (tabS [(i_SzMl, e_SzMl), (i_ToMl, e_ToMl), (i_toHd, e_toHd), (i_sEagerGive, e_sEagerGive), (i_iEagerGive, e_iEagerGive), (i_EqMl, e_EqMl), (i_mkMl, e_mkMl), (i_hdMl, e_hdMl)]) kp_xEagerGive F_xEagerGive [1, 1, 1, 1, 1, 1, 1, 1, 1, 1, 1, 1, 0] n (sq_xEagerGive_12 m h w r3 r5) K = (
 K .normal (sq_xEagerGive_13 m h w r3 r5)) := by kernel_rfl
def ce_xEagerGive_11 (r5 : Ml × Int) (r12 : List Rm × Int) (r13 : List Int × Int) : Nat × Ct := (45, ⟨z0, [(true, [.tr true (T.int IntKind.i64 r5.fst.c.1), .tr true (T.int IntKind.i64 r5.fst.c.2), .tr true (T.int IntKind.i64 r5.fst.c.3), .tr true (T.int IntKind.i64 r5.fst.c.4), .tr true (T.int IntKind.i64 r5.fst.c.5), .tr true (T.int IntKind.i64 r5.fst.c.6), .tr true (.arr (11) ((f_mkRmS r12).length) (atL Rm.cs (f_mkRmS r12))), .tr true (.arr (1) ((f_mkLI r13).length) (atL rowI (f_mkLI r13)))])]⟩)
def sq_xEagerGive_14 (m : Ml) (h : Hd) (w : Bool) (r3 : Ml × Int) (r5 : Ml × Int) (r12 : List Rm × Int) (r13 : List Int × Int) : St := [(8, ⟨z0, [(false, [.tr true (T.bool w)])]⟩), (12, ⟨z0, [(false, [(C.pt (Pt.ptr 13 0 [] 8 0 0))])]⟩), (ce_xEagerGive_0 m), (16, ⟨z0, [(false, [(C.pt (Pt.ptr 17 0 [] 2 0 0))])]⟩), (17, ⟨z0, [(true, [.tr true (T.int IntKind.i64 h.1), .tr true (T.int IntKind.i64 h.2)])]⟩), (32, ⟨z0, [(false, [(C.pt (Pt.ptr 33 0 [] 8 0 0))])]⟩), (ce_xEagerGive_1 r3), (36, ⟨z0, [(false, [.tr true (T.int IntKind.i64 r3.2)])]⟩), (44, ⟨z0, [(false, [(C.pt (Pt.ptr 45 0 [] 8 0 0))])]⟩), (ce_xEagerGive_11 r5 r12 r13), (56, ⟨z0, [(false, [.tr true (T.int IntKind.i64 (f_ctLI r13))])]⟩), (ce_xEagerGive_2 r3), (ce_xEagerGive_3 r3), (ce_xEagerGive_4 r3), (ce_xEagerGive_8 r5), (ce_xEagerGive_9 r5), (ce_xEagerGive_10 r5)]
theorem sg_xEagerGive_13 (m : Ml) (h : Hd) (w : Bool) (r3 : Ml × Int) (r5 : Ml × Int) (n : Nat) (K : Ex → St → Res) : atP prog (tabS [(i_SzMl, e_SzMl), (i_ToMl, e_ToMl), (i_toHd, e_toHd), (i_sEagerGive, e_sEagerGive), (i_iEagerGive, e_iEagerGive), (i_EqMl, e_EqMl), (i_mkMl, e_mkMl), (i_hdMl, e_hdMl)]) kp_xEagerGive F_xEagerGive [1, 1, 1, 1, 1, 1, 1, 1, 1, 1, 1, 1, 1, 0] n (sq_xEagerGive_13 m h w r3 r5) K = (
 gd (r5.fst.2.length.beq r5.fst.2.length && true) <|
 gd (r5.fst.3.length.beq r5.fst.3.length && true) <|
 gd (r5.fst.2.length.beq r5.fst.2.length && true) <|
 entK okh_RmS eam_RmS (fun x => x) [(1, false, [C.tr true (T.arr 11 r5.fst.2.length (eL 11 Rm.cs r5.fst.2).fn)]),
  (0, false, [C.tr false (T.int IntKind.i64 1)])] fun (r12 : List Rm × Int) =>
 gd (r5.fst.2.length.beq (f_mkRmS r12).length && true) <|
 gd (r5.fst.3.length.beq r5.fst.3.length && true) <|
 entK okh_LI eam_LI (fun x => x) [(1, false, [C.tr true (T.arr 1 r5.fst.3.length (eL 1 rowI r5.fst.3).fn)]),
  (0, false, [C.tr false (T.int IntKind.i64 (f_ctRmS r12))])] fun (r13 : List Int × Int) =>
 gd (r5.fst.3.length.beq (f_mkLI r13).length && true) <|
 gd (r5.fst.2.length.beq (f_mkRmS r12).length && true) <|
 gd (r5.fst.3.length.beq (f_mkLI r13).length && true) <|
 K .normal (sq_xEagerGive_14 m h w r3 r5 r12 r13)) := by kernel_rfl
def sq_xEagerGive_15 (m : Ml) (h : Hd) (w : Bool) (r3 : Ml × Int) (r5 : Ml × Int) (r12 : List Rm × Int) (r13 : List Int × Int) : St := [(8, ⟨z0, [(false, [.tr true (T.bool w)])]⟩), (12, ⟨z0, [(false, [(C.pt (Pt.ptr 13 0 [] 8 0 0))])]⟩), (ce_xEagerGive_0 m), (16, ⟨z0, [(false, [(C.pt (Pt.ptr 17 0 [] 2 0 0))])]⟩), (17, ⟨z0, [(true, [.tr true (T.int IntKind.i64 h.1), .tr true (T.int IntKind.i64 h.2)])]⟩), (32, ⟨z0, [(false, [(C.pt (Pt.ptr 33 0 [] 8 0 0))])]⟩), (ce_xEagerGive_1 r3), (36, ⟨z0, [(false, [.tr true (T.int IntKind.i64 r3.2)])]⟩), (44, ⟨z0, [(false, [(C.pt (Pt.ptr 45 0 [] 8 0 0))])]⟩), (ce_xEagerGive_11 r5 r12 r13), (56, ⟨z0, [(false, [.tr true (T.int IntKind.i64 (f_ctLI r13))])]⟩), (60, ⟨z0, [(false, [.tr true (T.int IntKind.i64 1)])]⟩), (ce_xEagerGive_2 r3), (ce_xEagerGive_3 r3), (ce_xEagerGive_4 r3), (ce_xEagerGive_8 r5), (ce_xEagerGive_9 r5), (ce_xEagerGive_10 r5)]
theorem sg_xEagerGive_14 (m : Ml) (h : Hd) (w : Bool) (r3 : Ml × Int) (r5 : Ml × Int) (r12 : List Rm × Int) (r13 : List Int × Int) (n : Nat) (K : Ex → St → Res) : atP prog (tabS [(i_SzMl, e_SzMl), (i_ToMl, e_ToMl), (i_toHd, e_toHd), (i_sEagerGive, e_sEagerGive), (i_iEagerGive, e_iEagerGive), (i_EqMl, e_EqMl), (i_mkMl, e_mkMl), (i_hdMl, e_hdMl)]) kp_xEagerGive F_xEagerGive [1, 1, 1, 1, 1, 1, 1, 1, 1, 1, 1, 1, 1, 1, 0] n (sq_xEagerGive_14 m h w r3 r5 r12 r13) K = (
 K .normal (sq_xEagerGive_15 m h w r3 r5 r12 r13)) := by kernel_rfl
def sq_xEagerGive_16 (m : Ml) (h : Hd) (w : Bool) (r3 : Ml × Int) (r5 : Ml × Int) (r12 : List Rm × Int) (r13 : List Int × Int) (r14 : Int) : St := [(8, ⟨z0, [(false, [.tr true (T.bool w)])]⟩), (12, ⟨z0, [(false, [(C.pt (Pt.ptr 13 0 [] 8 0 0))])]⟩), (ce_xEagerGive_0 m), (16, ⟨z0, [(false, [(C.pt (Pt.ptr 17 0 [] 2 0 0))])]⟩), (17, ⟨z0, [(true, [.tr true (T.int IntKind.i64 h.1), .tr true (T.int IntKind.i64 h.2)])]⟩), (32, ⟨z0, [(false, [(C.pt (Pt.ptr 33 0 [] 8 0 0))])]⟩), (ce_xEagerGive_1 r3), (36, ⟨z0, [(false, [.tr true (T.int IntKind.i64 r3.2)])]⟩), (44, ⟨z0, [(false, [(C.pt (Pt.ptr 45 0 [] 8 0 0))])]⟩), (ce_xEagerGive_11 r5 r12 r13), (56, ⟨z0, [(false, [.tr true (T.int IntKind.i64 (f_ctLI r13))])]⟩), (60, ⟨z0, [(false, [.tr true (T.int IntKind.i64 r14)])]⟩), (ce_xEagerGive_2 r3), (ce_xEagerGive_3 r3), (ce_xEagerGive_4 r3), (ce_xEagerGive_8 r5), (ce_xEagerGive_9 r5), (ce_xEagerGive_10 r5)]
theorem sg_xEagerGive_15 (m : Ml) (h : Hd) (w : Bool) (r3 : Ml × Int) (r5 : Ml × Int) (r12 : List Rm × Int) (r13 : List Int × Int) (n : Nat) (K : Ex → St → Res) : atP prog (tabS [(i_SzMl, e_SzMl), (i_ToMl, e_ToMl), (i_toHd, e_toHd), (i_sEagerGive, e_sEagerGive), (i_iEagerGive, e_iEagerGive), (i_EqMl, e_EqMl), (i_mkMl, e_mkMl), (i_hdMl, e_hdMl)]) kp_xEagerGive F_xEagerGive [1, 1, 1, 1, 1, 1, 1, 1, 1, 1, 1, 1, 1, 1, 1, 0] n (sq_xEagerGive_15 m h w r3 r5 r12 r13) K = (
 gd ((0 + (f_mkRmS r12).length).ble (f_mkRmS r12).length) <|
 gd ((0 + (f_mkLI r13).length).ble (f_mkLI r13).length) <|
 entK ok_hdMl ea_hdMl (f_hdMl) [(0, true,
    [C.tr false (T.int IntKind.i64 r5.fst.c.1), C.tr false (T.int IntKind.i64 r5.fst.c.2),
      C.tr false (T.int IntKind.i64 r5.fst.c.3), C.tr false (T.int IntKind.i64 r5.fst.c.4),
      C.tr false (T.int IntKind.i64 r5.fst.c.5), C.tr false (T.int IntKind.i64 r5.fst.c.6),
      C.tr false
        (T.arr 11 (f_mkRmS r12).length (cutT 0 (f_mkRmS r12).length (atL Rm.cs (f_mkRmS r12)))),
      C.tr false
        (T.arr 1 (f_mkLI r13).length (cutT 0 (f_mkLI r13).length (atL rowI (f_mkLI r13))))]),
  (0, false, [C.tr false (T.int IntKind.i64 1)])] fun (r14 : Int) =>
 K .normal (sq_xEagerGive_16 m h w r3 r5 r12 r13 r14)) := by kernel_rfl
def sq_xEagerGive_17 (m : Ml) (h : Hd) (w : Bool) (r3 : Ml × Int) (r5 : Ml × Int) (r12 : List Rm × Int) (r13 : List Int × Int) (r14 : Int) : St := [(8, ⟨z0, [(false, [.tr true (T.bool w)])]⟩), (12, ⟨z0, [(false, [(C.pt (Pt.ptr 13 0 [] 8 0 0))])]⟩), (ce_xEagerGive_0 m), (16, ⟨z0, [(false, [(C.pt (Pt.ptr 17 0 [] 2 0 0))])]⟩), (17, ⟨z0, [(true, [.tr true (T.int IntKind.i64 h.1), .tr true (T.int IntKind.i64 h.2)])]⟩), (32, ⟨z0, [(false, [(C.pt (Pt.ptr 33 0 [] 8 0 0))])]⟩), (ce_xEagerGive_1 r3), (36, ⟨z0, [(false, [.tr true (T.int IntKind.i64 r3.2)])]⟩), (44, ⟨z0, [(false, [(C.pt (Pt.ptr 45 0 [] 8 0 0))])]⟩), (ce_xEagerGive_11 r5 r12 r13), (56, ⟨z0, [(false, [.tr true (T.int IntKind.i64 (f_ctLI r13))])]⟩), (60, ⟨z0, [(false, [.tr true (T.int IntKind.i64 r14)])]⟩), (ce_xEagerGive_2 r3), (ce_xEagerGive_3 r3), (ce_xEagerGive_4 r3), (ce_xEagerGive_8 r5), (ce_xEagerGive_9 r5), (ce_xEagerGive_10 r5), (316, ⟨z0, []⟩)]
theorem sg_xEagerGive_16 (m : Ml) (h : Hd) (w : Bool) (r3 : Ml × Int) (r5 : Ml × Int) (r12 : List Rm × Int) (r13 : List Int × Int) (r14 : Int) (n : Nat) (K : Ex → St → Res) : atP prog (tabS [(i_SzMl, e_SzMl), (i_ToMl, e_ToMl), (i_toHd, e_toHd), (i_sEagerGive, e_sEagerGive), (i_iEagerGive, e_iEagerGive), (i_EqMl, e_EqMl), (i_mkMl, e_mkMl), (i_hdMl, e_hdMl)]) kp_xEagerGive F_xEagerGive [1, 1, 1, 1, 1, 1, 1, 1, 1, 1, 1, 1, 1, 1, 1, 1, 0] n (sq_xEagerGive_16 m h w r3 r5 r12 r13 r14) K = (
 bif decide (r14 < 0) then
  K .ret [(24, ⟨z0, [(false, [.tr true (T.bool false)])]⟩)]
 else
 K .normal (sq_xEagerGive_17 m h w r3 r5 r12 r13 r14)) := by kernel_rfl
def sq_xEagerGive_18 (m : Ml) (h : Hd) (w : Bool) (r3 : Ml × Int) (r5 : Ml × Int) (r12 : List Rm × Int) (r13 : List Int × Int) : St := [(8, ⟨z0, [(false, [.tr true (T.bool w)])]⟩), (12, ⟨z0, [(false, [(C.pt (Pt.ptr 13 0 [] 8 0 0))])]⟩), (ce_xEagerGive_0 m), (16, ⟨z0, [(false, [(C.pt (Pt.ptr 17 0 [] 2 0 0))])]⟩), (17, ⟨z0, [(true, [.tr true (T.int IntKind.i64 h.1), .tr true (T.int IntKind.i64 h.2)])]⟩), (32, ⟨z0, [(false, [(C.pt (Pt.ptr 33 0 [] 8 0 0))])]⟩), (ce_xEagerGive_1 r3), (36, ⟨z0, [(false, [.tr true (T.int IntKind.i64 r3.2)])]⟩), (44, ⟨z0, [(false, [(C.pt (Pt.ptr 45 0 [] 8 0 0))])]⟩), (ce_xEagerGive_11 r5 r12 r13), (56, ⟨z0, [(false, [.tr true (T.int IntKind.i64 (f_ctLI r13))])]⟩), (ce_xEagerGive_2 r3), (ce_xEagerGive_3 r3), (ce_xEagerGive_4 r3), (ce_xEagerGive_8 r5), (ce_xEagerGive_9 r5), (ce_xEagerGive_10 r5), (328, ⟨z0, []⟩)]
theorem sg_xEagerGive_17 (m : Ml) (h : Hd) (w : Bool) (r3 : Ml × Int) (r5 : Ml × Int) (r12 : List Rm × Int) (r13 : List Int × Int) (r14 : Int) (n : Nat) (K : Ex → St → Res) : atP prog (tabS [(i_SzMl, e_SzMl), (i_ToMl, e_ToMl), (i_toHd, e_toHd), (i_sEagerGive, e_sEagerGive), (i_iEagerGive, e_iEagerGive), (i_EqMl, e_EqMl), (i_mkMl, e_mkMl), (i_hdMl, e_hdMl)]) kp_xEagerGive F_xEagerGive [1, 1, 1, 1, 1, 1, 1, 1, 1, 1, 1, 1, 1, 1, 1, 1, 1, 0] n (sq_xEagerGive_17 m h w r3 r5 r12 r13 r14) K = (
 bif r14 != f_ctLI r13 then
  K .ret [(24, ⟨z0, [(false, [.tr true (T.bool false)])]⟩)]
 else
 K .normal (sq_xEagerGive_18 m h w r3 r5 r12 r13)) := by kernel_rfl
def ce_xEagerGive_12 (r16 : Ml × Int) : Nat × Ct := (65, ⟨z0, [(true, [.tr true (T.int IntKind.i64 r16.fst.c.1), .tr true (T.int IntKind.i64 r16.fst.c.2), .tr true (T.int IntKind.i64 r16.fst.c.3), .tr true (T.int IntKind.i64 r16.fst.c.4), .tr true (T.int IntKind.i64 r16.fst.c.5), .tr true (T.int IntKind.i64 r16.fst.c.6), .tr true (.arr (11) (r16.fst.2.length) ((eL 11 Rm.cs r16.fst.2).fn)), .tr true (.arr (1) (r16.fst.3.length) ((eL 1 rowI r16.fst.3).fn))])]⟩)
def ce_xEagerGive_13 (r16 : Ml × Int) : Nat × Ct := (332, ⟨z0, [(true, [.tr true (T.int IntKind.i64 r16.fst.c.1), .tr true (T.int IntKind.i64 r16.fst.c.2), .tr true (T.int IntKind.i64 r16.fst.c.3), .tr true (T.int IntKind.i64 r16.fst.c.4), .tr true (T.int IntKind.i64 r16.fst.c.5), .tr true (T.int IntKind.i64 r16.fst.c.6), (C.dead), (C.dead)]), (false, [.tr true (T.int IntKind.i64 r16.2)])]⟩)
def ce_xEagerGive_14 (r16 : Ml × Int) : Nat × Ct := (356, ⟨z0, [(true, [.tr true (T.int IntKind.i64 r16.fst.c.1), .tr true (T.int IntKind.i64 r16.fst.c.2), .tr true (T.int IntKind.i64 r16.fst.c.3), .tr true (T.int IntKind.i64 r16.fst.c.4), .tr true (T.int IntKind.i64 r16.fst.c.5), .tr true (T.int IntKind.i64 r16.fst.c.6), .tr true (T.hole), .tr true (T.hole)]), (false, [.tr true (T.int IntKind.i64 r16.2)])]⟩)
def ce_xEagerGive_15 (r16 : Ml × Int) : Nat × Ct := (360, ⟨z0, [(true, [.tr true (T.int IntKind.i64 r16.fst.c.1), .tr true (T.int IntKind.i64 r16.fst.c.2), .tr true (T.int IntKind.i64 r16.fst.c.3), .tr true (T.int IntKind.i64 r16.fst.c.4), .tr true (T.int IntKind.i64 r16.fst.c.5), .tr true (T.int IntKind.i64 r16.fst.c.6), (C.dead), (C.dead)])]⟩)
def sq_xEagerGive_19 (m : Ml) (h : Hd) (w : Bool) (r3 : Ml × Int) (r5 : Ml × Int) (r12 : List Rm × Int) (r13 : List Int × Int) (r16 : Ml × Int) : St := [(32, ⟨z0, [(false, [(C.pt (Pt.ptr 33 0 [] 8 0 0))])]⟩), (ce_xEagerGive_1 r3), (36, ⟨z0, [(false, [.tr true (T.int IntKind.i64 r3.2)])]⟩), (44, ⟨z0, [(false, [(C.pt (Pt.ptr 45 0 [] 8 0 0))])]⟩), (ce_xEagerGive_11 r5 r12 r13), (56, ⟨z0, [(false, [.tr true (T.int IntKind.i64 (f_ctLI r13))])]⟩), (64, ⟨z0, [(false, [(C.pt (Pt.ptr 65 0 [] 8 0 0))])]⟩), (ce_xEagerGive_12 r16), (68, ⟨z0, [(false, [.tr true (T.int IntKind.i64 r16.2)])]⟩), (ce_xEagerGive_2 r3), (ce_xEagerGive_3 r3), (ce_xEagerGive_4 r3), (ce_xEagerGive_8 r5), (ce_xEagerGive_9 r5), (ce_xEagerGive_10 r5), (ce_xEagerGive_13 r16), (ce_xEagerGive_14 r16), (ce_xEagerGive_15 r16)]
theorem sg_xEagerGive_18 (m : Ml) (h : Hd) (w : Bool) (r3 : Ml × Int) (r5 : Ml × Int) (r12 : List Rm × Int) (r13 : List Int × Int) (n : Nat) (K : Ex → St → Res) : atP prog (tabS [(i_SzMl, e_SzMl), (i_ToMl, e_ToMl), (i_toHd, e_toHd), (i_sEagerGive, e_sEagerGive), (i_iEagerGive, e_iEagerGive), (i_EqMl, e_EqMl), (i_mkMl, e_mkMl), (i_hdMl, e_hdMl)]) kp_xEagerGive F_xEagerGive [1, 1, 1, 1, 1, 1, 1, 1, 1, 1, 1, 1, 1, 1, 1, 1, 1, 1, 0] n (sq_xEagerGive_18 m h w r3 r5 r12 r13) K = (
 entK ok_ToMl ea_ToMl (f_ToMl) [(0, true,
    [C.tr false (T.int IntKind.i64 m.c.1), C.tr false (T.int IntKind.i64 m.c.2),
      C.tr false (T.int IntKind.i64 m.c.3), C.tr false (T.int IntKind.i64 m.c.4),
      C.tr false (T.int IntKind.i64 m.c.5), C.tr false (T.int IntKind.i64 m.c.6), C.tr false (eL 11 Rm.cs m.2),
      C.tr false (eL 1 rowI m.3)])] fun (r15 : Ml) =>
 gd ((0 + r15.2.length).ble r15.2.length) <|
 gd ((0 + r15.3.length).ble r15.3.length) <|
 entK ok_iEagerGive ea_iEagerGive (f_iEagerGive) [(0, true,
    [C.tr false (T.int IntKind.i64 r15.c.1), C.tr false (T.int IntKind.i64 r15.c.2),
      C.tr false (T.int IntKind.i64 r15.c.3), C.tr false (T.int IntKind.i64 r15.c.4),
      C.tr false (T.int IntKind.i64 r15.c.5), C.tr false (T.int IntKind.i64 r15.c.6),
      C.tr false (T.arr 11 r15.2.length (cutT 0 r15.2.length (eL 11 Rm.cs r15.2).fn)),
      C.tr false (T.arr 1 r15.3.length (cutT 0 r15.3.length (eL 1 rowI r15.3).fn))]),
  (0, true, [C.tr false (T.int IntKind.i64 h.1), C.tr false (T.int IntKind.i64 h.2)]),
  (0, false, [C.tr false (T.bool w)])] fun (r16 : Ml × Int) =>
 gd (r16.fst.2.length.ble r16.fst.2.length && true) <|
 gd (r16.fst.3.length.ble r16.fst.3.length && true) <|
 K .normal (sq_xEagerGive_19 m h w r3 r5 r12 r13 r16)) := by kernel_rfl
def sq_xEagerGive_20 (m : Ml) (h : Hd) (w : Bool) (r5 : Ml × Int) (r12 : List Rm × Int) (r13 : List Int × Int) : St := [(44, ⟨z0, [(false, [(C.pt (Pt.ptr 45 0 [] 8 0 0))])]⟩), (ce_xEagerGive_11 r5 r12 r13), (56, ⟨z0, [(false, [.tr true (T.int IntKind.i64 (f_ctLI r13))])]⟩), (ce_xEagerGive_8 r5), (ce_xEagerGive_9 r5), (ce_xEagerGive_10 r5), (400, ⟨z0, []⟩)]
theorem sg_xEagerGive_19 (m : Ml) (h : Hd) (w : Bool) (r3 : Ml × Int) (r5 : Ml × Int) (r12 : List Rm × Int) (r13 : List Int × Int) (r16 : Ml × Int) (n : Nat) (K : Ex → St → Res) : atP prog (tabS [(i_SzMl, e_SzMl), (i_ToMl, e_ToMl), (i_toHd, e_toHd), (i_sEagerGive, e_sEagerGive), (i_iEagerGive, e_iEagerGive), (i_EqMl, e_EqMl), (i_mkMl, e_mkMl), (i_hdMl, e_hdMl)]) kp_xEagerGive F_xEagerGive [1, 1, 1, 1, 1, 1, 1, 1, 1, 1, 1, 1, 1, 1, 1, 1, 1, 1, 1, 0] n (sq_xEagerGive_19 m h w r3 r5 r12 r13 r16) K = (
 gd ((0 + r16.fst.2.length).ble r16.fst.2.length) <|
 gd ((0 + r16.fst.3.length).ble r16.fst.3.length) <|
 gd ((0 + r3.fst.2.length).ble r3.fst.2.length) <|
 gd ((0 + r3.fst.3.length).ble r3.fst.3.length) <|
 entK ok_EqMl ea_EqMl (f_EqMl) [(0, true,
    [C.tr false (T.int IntKind.i64 r16.fst.c.1), C.tr false (T.int IntKind.i64 r16.fst.c.2),
      C.tr false (T.int IntKind.i64 r16.fst.c.3), C.tr false (T.int IntKind.i64 r16.fst.c.4),
      C.tr false (T.int IntKind.i64 r16.fst.c.5), C.tr false (T.int IntKind.i64 r16.fst.c.6),
      C.tr false (T.arr 11 r16.fst.2.length (cutT 0 r16.fst.2.length (eL 11 Rm.cs r16.fst.2).fn)),
      C.tr false (T.arr 1 r16.fst.3.length (cutT 0 r16.fst.3.length (eL 1 rowI r16.fst.3).fn))]),
  (0, true,
    [C.tr false (T.int IntKind.i64 r3.fst.c.1), C.tr false (T.int IntKind.i64 r3.fst.c.2),
      C.tr false (T.int IntKind.i64 r3.fst.c.3), C.tr false (T.int IntKind.i64 r3.fst.c.4),
      C.tr false (T.int IntKind.i64 r3.fst.c.5), C.tr false (T.int IntKind.i64 r3.fst.c.6),
      C.tr false (T.arr 11 r3.fst.2.length (cutT 0 r3.fst.2.length (eL 11 Rm.cs r3.fst.2).fn)),
      C.tr false (T.arr 1 r3.fst.3.length (cutT 0 r3.fst.3.length (eL 1 rowI r3.fst.3).fn))])] fun (r17 : Bool) =>
 bif !r17 then
  K .ret [(24, ⟨z0, [(false, [.tr true (T.bool false)])]⟩)]
 else
 bif r16.2 != r3.2 then
  K .ret [(24, ⟨z0, [(false, [.tr true (T.bool false)])]⟩)]
 else
 K .normal (sq_xEagerGive_20 m h w r5 r12 r13)) := by kernel_rfl
def sq_xEagerGive_21 (m : Ml) (h : Hd) (w : Bool) (r5 : Ml × Int) (r12 : List Rm × Int) (r13 : List Int × Int) : St := [(44, ⟨z0, [(false, [(C.pt (Pt.ptr 45 0 [] 8 0 0))])]⟩), (ce_xEagerGive_11 r5 r12 r13), (56, ⟨z0, [(false, [.tr true (T.int IntKind.i64 (f_ctLI r13))])]⟩), (60, ⟨z0, [(false, [.tr true (T.int IntKind.i64 1)])]⟩), (ce_xEagerGive_8 r5), (ce_xEagerGive_9 r5), (ce_xEagerGive_10 r5)]
theorem sg_xEagerGive_20 (m : Ml) (h : Hd) (w : Bool) (r5 : Ml × Int) (r12 : List Rm × Int) (r13 : List Int × Int) (n : Nat) (K : Ex → St → Res) : atP prog (tabS [(i_SzMl, e_SzMl), (i_ToMl, e_ToMl), (i_toHd, e_toHd), (i_sEagerGive, e_sEagerGive), (i_iEagerGive, e_iEagerGive), (i_EqMl, e_EqMl), (i_mkMl, e_mkMl), (i_hdMl, e_hdMl)]) kp_xEagerGive F_xEagerGive [1, 1, 1, 1, 1, 1, 1, 1, 1, 1, 1, 1, 1, 1, 1, 1, 1, 1, 1, 1, 0] n (sq_xEagerGive_20 m h w r5 r12 r13) K = (
 K .normal (sq_xEagerGive_21 m h w r5 r12 r13)) := by kernel_rfl
def sq_xEagerGive_22 (m : Ml) (h : Hd) (w : Bool) (r13 : List Int × Int) (r18 : Int) : St := [(56, ⟨z0, [(false, [.tr true (T.int IntKind.i64 (f_ctLI r13))])]⟩), (60, ⟨z0, [(false, [.tr true (T.int IntKind.i64 r18)])]⟩)]
theorem sg_xEagerGive_21 (m : Ml) (h : Hd) (w : Bool) (r5 : Ml × Int) (r12 : List Rm × Int) (r13 : List Int × Int) (n : Nat) (K : Ex → St → Res) : atP prog (tabS [(i_SzMl, e_SzMl), (i_ToMl, e_ToMl), (i_toHd, e_toHd), (i_sEagerGive, e_sEagerGive), (i_iEagerGive, e_iEagerGive), (i_EqMl, e_EqMl), (i_mkMl, e_mkMl), (i_hdMl, e_hdMl)]) kp_xEagerGive F_xEagerGive [1, 1, 1, 1, 1, 1, 1, 1, 1, 1, 1, 1, 1, 1, 1, 1, 1, 1, 1, 1, 1, 0] n (sq_xEagerGive_21 m h w r5 r12 r13) K = (
 gd ((0 + (f_mkRmS r12).length).ble (f_mkRmS r12).length) <|
 gd ((0 + (f_mkLI r13).length).ble (f_mkLI r13).length) <|
 entK ok_hdMl ea_hdMl (f_hdMl) [(0, true,
    [C.tr false (T.int IntKind.i64 r5.fst.c.1), C.tr false (T.int IntKind.i64 r5.fst.c.2),
      C.tr false (T.int IntKind.i64 r5.fst.c.3), C.tr false (T.int IntKind.i64 r5.fst.c.4),
      C.tr false (T.int IntKind.i64 r5.fst.c.5), C.tr false (T.int IntKind.i64 r5.fst.c.6),
      C.tr false
        (T.arr 11 (f_mkRmS r12).length (cutT 0 (f_mkRmS r12).length (atL Rm.cs (f_mkRmS r12)))),
      C.tr false
        (T.arr 1 (f_mkLI r13).length (cutT 0 (f_mkLI r13).length (atL rowI (f_mkLI r13))))]),
  (0, false, [C.tr false (T.int IntKind.i64 1)])] fun (r18 : Int) =>
 K .normal (sq_xEagerGive_22 m h w r13 r18)) := by kernel_rfl
def sq_xEagerGive_23 (m : Ml) (h : Hd) (w : Bool) (r13 : List Int × Int) (r18 : Int) : St := [(56, ⟨z0, [(false, [.tr true (T.int IntKind.i64 (f_ctLI r13))])]⟩), (60, ⟨z0, [(false, [.tr true (T.int IntKind.i64 r18)])]⟩), (420, ⟨z0, []⟩)]
theorem sg_xEagerGive_22 (m : Ml) (h : Hd) (w : Bool) (r13 : List Int × Int) (r18 : Int) (n : Nat) (K : Ex → St → Res) : atP prog (tabS [(i_SzMl, e_SzMl), (i_ToMl, e_ToMl), (i_toHd, e_toHd), (i_sEagerGive, e_sEagerGive), (i_iEagerGive, e_iEagerGive), (i_EqMl, e_EqMl), (i_mkMl, e_mkMl), (i_hdMl, e_hdMl)]) kp_xEagerGive F_xEagerGive [1, 1, 1, 1, 1, 1, 1, 1, 1, 1, 1, 1, 1, 1, 1, 1, 1, 1, 1, 1, 1, 1, 0] n (sq_xEagerGive_22 m h w r13 r18) K = (
 bif decide (r18 < 0) then
  K .ret [(24, ⟨z0, [(false, [.tr true (T.bool false)])]⟩)]
 else
 K .normal (sq_xEagerGive_23 m h w r13 r18)) := by kernel_rfl
def sq_xEagerGive_24 (m : Ml) (h : Hd) (w : Bool) : St := [(432, ⟨z0, []⟩)]
theorem sg_xEagerGive_23 (m : Ml) (h : Hd) (w : Bool) (r13 : List Int × Int) (r18 : Int) (n : Nat) (K : Ex → St → Res) : atP prog (tabS [(i_SzMl, e_SzMl), (i_ToMl, e_ToMl), (i_toHd, e_toHd), (i_sEagerGive, e_sEagerGive), (i_iEagerGive, e_iEagerGive), (i_EqMl, e_EqMl), (i_mkMl, e_mkMl), (i_hdMl, e_hdMl)]) kp_xEagerGive F_xEagerGive [1, 1, 1, 1, 1, 1, 1, 1, 1, 1, 1, 1, 1, 1, 1, 1, 1, 1, 1, 1, 1, 1, 1, 0] n (sq_xEagerGive_23 m h w r13 r18) K = (
 bif r18 != f_ctLI r13 then
  K .ret [(24, ⟨z0, [(false, [.tr true (T.bool false)])]⟩)]
 else
 K .normal (sq_xEagerGive_24 m h w)) := by kernel_rfl
def sq_xEagerGive_25 (m : Ml) (h : Hd) (w : Bool) : St := [(24, ⟨z0, [(false, [.tr true (T.bool true)])]⟩)]
theorem sg_xEagerGive_24 (m : Ml) (h : Hd) (w : Bool) (n : Nat) (K : Ex → St → Res) : atP prog (tabS [(i_SzMl, e_SzMl), (i_ToMl, e_ToMl), (i_toHd, e_toHd), (i_sEagerGive, e_sEagerGive), (i_iEagerGive, e_iEagerGive), (i_EqMl, e_EqMl), (i_mkMl, e_mkMl), (i_hdMl, e_hdMl)]) kp_xEagerGive F_xEagerGive [1, 1, 1, 1, 1, 1, 1, 1, 1, 1, 1, 1, 1, 1, 1, 1, 1, 1, 1, 1, 1, 1, 1, 1, 0] n (sq_xEagerGive_24 m h w) K = (
 K .normal (sq_xEagerGive_25 m h w)) := by kernel_rfl
theorem sg_xEagerGive_25 (m : Ml) (h : Hd) (w : Bool) (n : Nat) (K : Ex → St → Res) : atP prog (tabS [(i_SzMl, e_SzMl), (i_ToMl, e_ToMl), (i_toHd, e_toHd), (i_sEagerGive, e_sEagerGive), (i_iEagerGive, e_iEagerGive), (i_EqMl, e_EqMl), (i_mkMl, e_mkMl), (i_hdMl, e_hdMl)]) kp_xEagerGive F_xEagerGive [1, 1, 1, 1, 1, 1, 1, 1, 1, 1, 1, 1, 1, 1, 1, 1, 1, 1, 1, 1, 1, 1, 1, 1, 1] n (sq_xEagerGive_25 m h w) K = (
 K .ret [(24, ⟨z0, [(false, [.tr true (T.bool true)])]⟩)]) := by kernel_rfl
theorem body_xEagerGive (m : Ml) (h : Hd) (w : Bool) (hm : z_Ml m) (hh : z_Hd h) (n : Nat) : body prog (tabS [(i_SzMl, e_SzMl), (i_ToMl, e_ToMl), (i_toHd, e_toHd), (i_sEagerGive, e_sEagerGive), (i_iEagerGive, e_iEagerGive), (i_EqMl, e_EqMl), (i_mkMl, e_mkMl), (i_hdMl, e_hdMl)]) kp_xEagerGive n F_xEagerGive [aR m.cs, aR h.cs, aB w] = some (erB 3 true) := by
  have hzm := zm
  have hlm := lm
  have hbm := bm
  have rsx := And.intro @lt_d (And.intro @ge0_d (And.intro @Int.toNat_natCast (And.intro @blt_d (And.intro @ble_self (And.intro @beq_self (And.intro @decide_true (And.intro @cond_true.{1} (And.intro @Bool.and_self (And.intro @Bool.and_true (And.intro @Bool.true_and (And.intro @gd_true (And.intro @Nat.zero_add (And.intro @List.getD_cons_zero.{0} (And.intro @List.getD_cons_succ.{0} (And.intro @isI_int (And.intro @toI_int (And.intro @isB_bool (And.intro @toB_bool (And.intro @eL_T (And.intro @arr_ln (And.intro @arr_fn (And.intro @arr_wd (And.intro @arr_is (And.intro @arr_get (And.intro @cut_all (And.intro @bool_self (And.intro @bool_nself (And.intro @int_self (And.intro @int_nself (And.intro @Bool.not_true (And.intro @Bool.not_false (And.intro @cond_false.{1} (And.intro @nextP_n @nextP_r)))))))))))))))))))))))))))))))))
  rw [body_at _ _ _ _ _ _ (by kernel_rfl), show initA F_xEagerGive.ntmps 0 [aR m.cs, aR h.cs, aB w] = sq_xEagerGive_0 m h w from by kernel_rfl]
  have y0 : ok_SzMl (m, 1048576) := ⟨hm, by dsimp only; omega, by dsimp only; omega⟩
  by_cases e0 : (n_Ml m : Int) ≤ 1048576
  case neg =>
    rw [atP_seq (p := []) (q0 := [0]) (q1 := [1]) (by kernel_rfl) rfl rfl]
    rw [sg_xEagerGive_0]
    try simp (implicitDefEqProofs := false) only [rsx, Ml.cs, Hd.cs, n_SzMl e0, decide_eq_true (show (-1 : Int) < 0 by omega)]
    rw [atP_seq (p := [1]) (q0 := [1, 0]) (q1 := [1, 1]) (by kernel_rfl) rfl rfl]
    rw [sg_xEagerGive_1]
    try simp (implicitDefEqProofs := false) only [rsx, Ml.cs, Hd.cs, n_SzMl e0, decide_eq_true (show (-1 : Int) < 0 by omega)]
    rw [atP_seq (p := [1, 1]) (q0 := [1, 1, 0]) (q1 := [1, 1, 1]) (by kernel_rfl) rfl rfl]
    rw [sg_xEagerGive_2]
    try simp (implicitDefEqProofs := false) only [rsx, Ml.cs, Hd.cs, n_SzMl e0, decide_eq_true (show (-1 : Int) < 0 by omega)]
    rw [entK_of (dm_SzMl y0) (iv_SzMl y0)]
    try simp (implicitDefEqProofs := false) only [rsx, Ml.cs, Hd.cs, n_SzMl e0, decide_eq_true (show (-1 : Int) < 0 by omega)]
    rw [atP_seq (p := [1, 1, 1]) (q0 := [1, 1, 1, 0]) (q1 := [1, 1, 1, 1]) (by kernel_rfl) rfl rfl]
    rw [sg_xEagerGive_3]
    try simp (implicitDefEqProofs := false) only [rsx, Ml.cs, Hd.cs, n_SzMl e0, decide_eq_true (show (-1 : Int) < 0 by omega)]
    rfl
  have f0 : ¬ 1048576 - (n_Ml m : Int) < 0 := by omega
  obtain ⟨g0, q0⟩ := okn_Ml (l := m) (by omega)
  have c0 : ok_sEagerGive (m, h, w) := give_ok g0 e0
  have c1 : ok_iEagerGive (m, h, w) := give_ok g0 e0
  have c2 : ok_EqMl (m, m) := q0
  have hn0 : n_Ml m = n_RmS m.rooms + n_LI m.log := rfl
  have hb0 := cb_RmS m.rooms
  have hk0 : okh_RmS (m.rooms, 1) := ⟨q0.1, by dsimp only; omega, by dsimp only; omega⟩
  have hb1 := cb_LI m.log
  have hk1 : okh_LI (m.log, 1 + (cntL c1_RmS m.rooms : Int)) := ⟨q0.2, by dsimp only; omega, by dsimp only; omega⟩
  have hkm : ¬ 1 + (cntL c1_RmS m.rooms : Int) + (cntL c1_LI m.log : Int) < 0 := by omega
  have tq := givM_ok (h := h) (w := w) q0.1 q0.2 e0
  have tq2 := tq.2.1
  have tq3 := tq.2.2
  have rb0 := cb_RmS ((givM m h w).1).rooms
  have rb1 := cb_LI ((givM m h w).1).log
  have rn : n_LI ((givM m h w).1).log ≤ n_LI m.log + n_RmS m.rooms := tq3
  have cq : ok_EqMl ((givM m h w).1, (givM m h w).1) := tq.1
  have mq0 : okq_RmS ((givM m h w).1).rooms := tq.1.1
  have mh0 : okh_RmS (((givM m h w).1).rooms, 1) := ⟨mq0, by dsimp only; omega, by dsimp only; omega⟩
  have mn1 : ¬ 1 + (cntL c1_RmS ((givM m h w).1).rooms : Int) < 0 := by omega
  have mq1 : okq_LI ((givM m h w).1).log := tq.1.2
  have mh1 : okh_LI (((givM m h w).1).log, 1 + (cntL c1_RmS ((givM m h w).1).rooms : Int)) := ⟨mq1, by dsimp only; omega, by dsimp only; omega⟩
  have mn2 : ¬ 1 + (cntL c1_RmS ((givM m h w).1).rooms : Int) + (cntL c1_LI ((givM m h w).1).log : Int) < 0 := by omega
  have mc0 : ok_hdMl ((Ml.mk (((givM m h w).1).c) (mk_RmS ((givM m h w).1).rooms (1)) (mk_LI ((givM m h w).1).log (1 + (cntL c1_RmS ((givM m h w).1).rooms : Int)))), 1) := ⟨⟨okqmk_RmS mq0, by dsimp only; omega, by dsimp only; simp only [ctmk_RmS, ctmk_LI]; omega⟩, ⟨okqmk_LI mq1, by dsimp only; omega, by dsimp only; simp only [ctmk_RmS, ctmk_LI]; omega⟩⟩
  have dm_hdMl := dm_hdMl mc0
  have iv_hdMl := iv_hdMl mc0
  have hv0 : f_hdMl ((Ml.mk (((givM m h w).1).c) (mk_RmS ((givM m h w).1).rooms (1)) (mk_LI ((givM m h w).1).log (1 + (cntL c1_RmS ((givM m h w).1).rooms : Int)))), 1) = 1 + (cntL c1_RmS ((givM m h w).1).rooms : Int) + (cntL c1_LI ((givM m h w).1).log : Int) := by simp [f_hdMl, ctmk_RmS, ctmk_LI, mkmk_RmS, mkmk_LI]
  dsimp only at dm_hdMl iv_hdMl
  have fx := And.intro (y_SzMl e0) (And.intro (decide_eq_false f0) (And.intro @d_ToMl (And.intro @d_sEagerGive (And.intro @d_iEagerGive (And.intro @d_EqMl (And.intro (decide_eq_false hkm) (And.intro (decide_eq_false mn1) (And.intro (decide_eq_false mn2) (And.intro @hv0 (And.intro @d_mkRmS (And.intro @d_ctRmS (And.intro @beq_mkRmS (And.intro @d_mkLI (And.intro @d_ctLI @beq_mkLI))))))))))))))
  rw [atP_seq (p := []) (q0 := [0]) (q1 := [1]) (by kernel_rfl) rfl rfl]
  rw [sg_xEagerGive_0]
  try simp (implicitDefEqProofs := false) only [rsx, Ml.cs, Hd.cs, fx]
  rw [atP_seq (p := [1]) (q0 := [1, 0]) (q1 := [1, 1]) (by kernel_rfl) rfl rfl]
  rw [sg_xEagerGive_1]
  try simp (implicitDefEqProofs := false) only [rsx, Ml.cs, Hd.cs, fx]
  rw [atP_seq (p := [1, 1]) (q0 := [1, 1, 0]) (q1 := [1, 1, 1]) (by kernel_rfl) rfl rfl]
  rw [sg_xEagerGive_2]
  try simp (implicitDefEqProofs := false) only [rsx, Ml.cs, Hd.cs, fx]
  rw [entK_of (dm_SzMl y0) (iv_SzMl y0)]
  try simp (implicitDefEqProofs := false) only [rsx, Ml.cs, Hd.cs, fx]
  rw [atP_seq (p := [1, 1, 1]) (q0 := [1, 1, 1, 0]) (q1 := [1, 1, 1, 1]) (by kernel_rfl) rfl rfl]
  rw [sg_xEagerGive_3]
  try simp (implicitDefEqProofs := false) only [rsx, Ml.cs, Hd.cs, fx]
  rw [atP_seq (p := [1, 1, 1, 1]) (q0 := [1, 1, 1, 1, 0]) (q1 := [1, 1, 1, 1, 1]) (by kernel_rfl) rfl rfl]
  rw [sg_xEagerGive_4]
  try simp (implicitDefEqProofs := false) only [rsx, Ml.cs, Hd.cs, fx]
  rw [entK_of (dm_ToMl g0) (iv_ToMl g0)]
  try simp (implicitDefEqProofs := false) only [rsx, Ml.cs, Hd.cs, fx]
  rw [entK_of (dm_sEagerGive c0) (iv_sEagerGive c0)]
  try simp (implicitDefEqProofs := false) only [rsx, Ml.cs, Hd.cs, fx]
  rw [atP_seq (p := [1, 1, 1, 1, 1]) (q0 := [1, 1, 1, 1, 1, 0]) (q1 := [1, 1, 1, 1, 1, 1]) (by kernel_rfl) rfl rfl]
  rw [sg_xEagerGive_5]
  try simp (implicitDefEqProofs := false) only [rsx, Ml.cs, Hd.cs, fx]
  rw [entK_of (dm_ToMl g0) (iv_ToMl g0)]
  try simp (implicitDefEqProofs := false) only [rsx, Ml.cs, Hd.cs, fx]
  rw [atP_seq (p := [1, 1, 1, 1, 1, 1]) (q0 := [1, 1, 1, 1, 1, 1, 0]) (q1 := [1, 1, 1, 1, 1, 1, 1]) (by kernel_rfl) rfl rfl]
  rw [sg_xEagerGive_6]
  try simp (implicitDefEqProofs := false) only [rsx, Ml.cs, Hd.cs, fx]
  rw [entK_of (dm_iEagerGive c1) (iv_iEagerGive c1)]
  try simp (implicitDefEqProofs := false) only [rsx, Ml.cs, Hd.cs, fx]
  rw [atP_seq (p := [1, 1, 1, 1, 1, 1, 1]) (q0 := [1, 1, 1, 1, 1, 1, 1, 0]) (q1 := [1, 1, 1, 1, 1, 1, 1, 1]) (by kernel_rfl) rfl rfl]
  rw [sg_xEagerGive_7]
  try simp (implicitDefEqProofs := false) only [rsx, Ml.cs, Hd.cs, fx]
  rw [entK_of (dm_EqMl cq) (iv_EqMl cq)]
  try simp (implicitDefEqProofs := false) only [rsx, Ml.cs, Hd.cs, fx]
  rw [atP_seq (p := [1, 1, 1, 1, 1, 1, 1, 1]) (q0 := [1, 1, 1, 1, 1, 1, 1, 1, 0]) (q1 := [1, 1, 1, 1, 1, 1, 1, 1, 1]) (by kernel_rfl) rfl rfl]
  rw [sg_xEagerGive_8]
  try simp (implicitDefEqProofs := false) only [rsx, Ml.cs, Hd.cs, fx]
  rw [entK_of (dm_ToMl g0) (iv_ToMl g0)]
  try simp (implicitDefEqProofs := false) only [rsx, Ml.cs, Hd.cs, fx]
  rw [entK_of (dm_EqMl c2) (iv_EqMl c2)]
  try simp (implicitDefEqProofs := false) only [rsx, Ml.cs, Hd.cs, fx]
  rw [atP_seq (p := [1, 1, 1, 1, 1, 1, 1, 1, 1]) (q0 := [1, 1, 1, 1, 1, 1, 1, 1, 1, 0]) (q1 := [1, 1, 1, 1, 1, 1, 1, 1, 1, 1]) (by kernel_rfl) rfl rfl]
  rw [sg_xEagerGive_9]
  try simp (implicitDefEqProofs := false) only [rsx, Ml.cs, Hd.cs, fx]
  rw [atP_seq (p := [1, 1, 1, 1, 1, 1, 1, 1, 1, 1]) (q0 := [1, 1, 1, 1, 1, 1, 1, 1, 1, 1, 0]) (q1 := [1, 1, 1, 1, 1, 1, 1, 1, 1, 1, 1]) (by kernel_rfl) rfl rfl]
  rw [sg_xEagerGive_10]
  try simp (implicitDefEqProofs := false) only [rsx, Ml.cs, Hd.cs, fx]
  rw [entK_of (dm_mkRmS hk0) (iv_mkRmS hk0)]
  try simp (implicitDefEqProofs := false) only [rsx, Ml.cs, Hd.cs, fx]
  rw [entK_of (dm_mkLI hk1) (iv_mkLI hk1)]
  try simp (implicitDefEqProofs := false) only [rsx, Ml.cs, Hd.cs, fx]
  rw [atP_seq (p := [1, 1, 1, 1, 1, 1, 1, 1, 1, 1, 1]) (q0 := [1, 1, 1, 1, 1, 1, 1, 1, 1, 1, 1, 0]) (q1 := [1, 1, 1, 1, 1, 1, 1, 1, 1, 1, 1, 1]) (by kernel_rfl) rfl rfl]
  rw [sg_xEagerGive_11]
  try simp (implicitDefEqProofs := false) only [rsx, Ml.cs, Hd.cs, fx]
  rw [entK_of (dm_EqMl cq) (iv_EqMl cq)]
  try simp (implicitDefEqProofs := false) only [rsx, Ml.cs, Hd.cs, fx]
  rw [atP_seq (p := [1, 1, 1, 1, 1, 1, 1, 1, 1, 1, 1, 1]) (q0 := [1, 1, 1, 1, 1, 1, 1, 1, 1, 1, 1, 1, 0]) (q1 := [1, 1, 1, 1, 1, 1, 1, 1, 1, 1, 1, 1, 1]) (by kernel_rfl) rfl rfl]
  rw [sg_xEagerGive_12]
  try simp (implicitDefEqProofs := false) only [rsx, Ml.cs, Hd.cs, fx]
  rw [atP_seq (p := [1, 1, 1, 1, 1, 1, 1, 1, 1, 1, 1, 1, 1]) (q0 := [1, 1, 1, 1, 1, 1, 1, 1, 1, 1, 1, 1, 1, 0]) (q1 := [1, 1, 1, 1, 1, 1, 1, 1, 1, 1, 1, 1, 1, 1]) (by kernel_rfl) rfl rfl]
  rw [sg_xEagerGive_13]
  try simp (implicitDefEqProofs := false) only [rsx, Ml.cs, Hd.cs, fx]
  rw [entK_of (dm_mkRmS mh0) (iv_mkRmS mh0)]
  try simp (implicitDefEqProofs := false) only [rsx, Ml.cs, Hd.cs, fx]
  rw [entK_of (dm_mkLI mh1) (iv_mkLI mh1)]
  try simp (implicitDefEqProofs := false) only [rsx, Ml.cs, Hd.cs, fx]
  rw [atP_seq (p := [1, 1, 1, 1, 1, 1, 1, 1, 1, 1, 1, 1, 1, 1]) (q0 := [1, 1, 1, 1, 1, 1, 1, 1, 1, 1, 1, 1, 1, 1, 0]) (q1 := [1, 1, 1, 1, 1, 1, 1, 1, 1, 1, 1, 1, 1, 1, 1]) (by kernel_rfl) rfl rfl]
  rw [sg_xEagerGive_14]
  try simp (implicitDefEqProofs := false) only [rsx, Ml.cs, Hd.cs, fx]
  rw [atP_seq (p := [1, 1, 1, 1, 1, 1, 1, 1, 1, 1, 1, 1, 1, 1, 1]) (q0 := [1, 1, 1, 1, 1, 1, 1, 1, 1, 1, 1, 1, 1, 1, 1, 0]) (q1 := [1, 1, 1, 1, 1, 1, 1, 1, 1, 1, 1, 1, 1, 1, 1, 1]) (by kernel_rfl) rfl rfl]
  rw [sg_xEagerGive_15]
  try simp (implicitDefEqProofs := false) only [rsx, Ml.cs, Hd.cs, fx]
  rw [entK_of dm_hdMl iv_hdMl]
  try simp (implicitDefEqProofs := false) only [rsx, Ml.cs, Hd.cs, fx]
  rw [atP_seq (p := [1, 1, 1, 1, 1, 1, 1, 1, 1, 1, 1, 1, 1, 1, 1, 1]) (q0 := [1, 1, 1, 1, 1, 1, 1, 1, 1, 1, 1, 1, 1, 1, 1, 1, 0]) (q1 := [1, 1, 1, 1, 1, 1, 1, 1, 1, 1, 1, 1, 1, 1, 1, 1, 1]) (by kernel_rfl) rfl rfl]
  rw [sg_xEagerGive_16]
  try simp (implicitDefEqProofs := false) only [rsx, Ml.cs, Hd.cs, fx]
  rw [atP_seq (p := [1, 1, 1, 1, 1, 1, 1, 1, 1, 1, 1, 1, 1, 1, 1, 1, 1]) (q0 := [1, 1, 1, 1, 1, 1, 1, 1, 1, 1, 1, 1, 1, 1, 1, 1, 1, 0]) (q1 := [1, 1, 1, 1, 1, 1, 1, 1, 1, 1, 1, 1, 1, 1, 1, 1, 1, 1]) (by kernel_rfl) rfl rfl]
  rw [sg_xEagerGive_17]
  try simp (implicitDefEqProofs := false) only [rsx, Ml.cs, Hd.cs, fx]
  rw [atP_seq (p := [1, 1, 1, 1, 1, 1, 1, 1, 1, 1, 1, 1, 1, 1, 1, 1, 1, 1]) (q0 := [1, 1, 1, 1, 1, 1, 1, 1, 1, 1, 1, 1, 1, 1, 1, 1, 1, 1, 0]) (q1 := [1, 1, 1, 1, 1, 1, 1, 1, 1, 1, 1, 1, 1, 1, 1, 1, 1, 1, 1]) (by kernel_rfl) rfl rfl]
  rw [sg_xEagerGive_18]
  try simp (implicitDefEqProofs := false) only [rsx, Ml.cs, Hd.cs, fx]
  rw [entK_of (dm_ToMl g0) (iv_ToMl g0)]
  try simp (implicitDefEqProofs := false) only [rsx, Ml.cs, Hd.cs, fx]
  rw [entK_of (dm_iEagerGive c1) (iv_iEagerGive c1)]
  try simp (implicitDefEqProofs := false) only [rsx, Ml.cs, Hd.cs, fx]
  rw [atP_seq (p := [1, 1, 1, 1, 1, 1, 1, 1, 1, 1, 1, 1, 1, 1, 1, 1, 1, 1, 1]) (q0 := [1, 1, 1, 1, 1, 1, 1, 1, 1, 1, 1, 1, 1, 1, 1, 1, 1, 1, 1, 0]) (q1 := [1, 1, 1, 1, 1, 1, 1, 1, 1, 1, 1, 1, 1, 1, 1, 1, 1, 1, 1, 1]) (by kernel_rfl) rfl rfl]
  rw [sg_xEagerGive_19]
  try simp (implicitDefEqProofs := false) only [rsx, Ml.cs, Hd.cs, fx]
  rw [entK_of (dm_EqMl cq) (iv_EqMl cq)]
  try simp (implicitDefEqProofs := false) only [rsx, Ml.cs, Hd.cs, fx]
  rw [atP_seq (p := [1, 1, 1, 1, 1, 1, 1, 1, 1, 1, 1, 1, 1, 1, 1, 1, 1, 1, 1, 1]) (q0 := [1, 1, 1, 1, 1, 1, 1, 1, 1, 1, 1, 1, 1, 1, 1, 1, 1, 1, 1, 1, 0]) (q1 := [1, 1, 1, 1, 1, 1, 1, 1, 1, 1, 1, 1, 1, 1, 1, 1, 1, 1, 1, 1, 1]) (by kernel_rfl) rfl rfl]
  rw [sg_xEagerGive_20]
  try simp (implicitDefEqProofs := false) only [rsx, Ml.cs, Hd.cs, fx]
  rw [atP_seq (p := [1, 1, 1, 1, 1, 1, 1, 1, 1, 1, 1, 1, 1, 1, 1, 1, 1, 1, 1, 1, 1]) (q0 := [1, 1, 1, 1, 1, 1, 1, 1, 1, 1, 1, 1, 1, 1, 1, 1, 1, 1, 1, 1, 1, 0]) (q1 := [1, 1, 1, 1, 1, 1, 1, 1, 1, 1, 1, 1, 1, 1, 1, 1, 1, 1, 1, 1, 1, 1]) (by kernel_rfl) rfl rfl]
  rw [sg_xEagerGive_21]
  try simp (implicitDefEqProofs := false) only [rsx, Ml.cs, Hd.cs, fx]
  rw [entK_of dm_hdMl iv_hdMl]
  try simp (implicitDefEqProofs := false) only [rsx, Ml.cs, Hd.cs, fx]
  rw [atP_seq (p := [1, 1, 1, 1, 1, 1, 1, 1, 1, 1, 1, 1, 1, 1, 1, 1, 1, 1, 1, 1, 1, 1]) (q0 := [1, 1, 1, 1, 1, 1, 1, 1, 1, 1, 1, 1, 1, 1, 1, 1, 1, 1, 1, 1, 1, 1, 0]) (q1 := [1, 1, 1, 1, 1, 1, 1, 1, 1, 1, 1, 1, 1, 1, 1, 1, 1, 1, 1, 1, 1, 1, 1]) (by kernel_rfl) rfl rfl]
  rw [sg_xEagerGive_22]
  try simp (implicitDefEqProofs := false) only [rsx, Ml.cs, Hd.cs, fx]
  rw [atP_seq (p := [1, 1, 1, 1, 1, 1, 1, 1, 1, 1, 1, 1, 1, 1, 1, 1, 1, 1, 1, 1, 1, 1, 1]) (q0 := [1, 1, 1, 1, 1, 1, 1, 1, 1, 1, 1, 1, 1, 1, 1, 1, 1, 1, 1, 1, 1, 1, 1, 0]) (q1 := [1, 1, 1, 1, 1, 1, 1, 1, 1, 1, 1, 1, 1, 1, 1, 1, 1, 1, 1, 1, 1, 1, 1, 1]) (by kernel_rfl) rfl rfl]
  rw [sg_xEagerGive_23]
  try simp (implicitDefEqProofs := false) only [rsx, Ml.cs, Hd.cs, fx]
  rw [atP_seq (p := [1, 1, 1, 1, 1, 1, 1, 1, 1, 1, 1, 1, 1, 1, 1, 1, 1, 1, 1, 1, 1, 1, 1, 1]) (q0 := [1, 1, 1, 1, 1, 1, 1, 1, 1, 1, 1, 1, 1, 1, 1, 1, 1, 1, 1, 1, 1, 1, 1, 1, 0]) (q1 := [1, 1, 1, 1, 1, 1, 1, 1, 1, 1, 1, 1, 1, 1, 1, 1, 1, 1, 1, 1, 1, 1, 1, 1, 1]) (by kernel_rfl) rfl rfl]
  rw [sg_xEagerGive_24]
  try simp (implicitDefEqProofs := false) only [rsx, Ml.cs, Hd.cs, fx]
  rw [sg_xEagerGive_25]
  try simp (implicitDefEqProofs := false) only [rsx, Ml.cs, Hd.cs, fx]
  rfl
theorem sd_xEagerGive (m : Ml) (h : Hd) (w : Bool) (hm : z_Ml m) (hh : z_Hd h) : Sound prog i_xEagerGive [aR m.cs, aR h.cs, aB w] (erB 3 true).1 (erB 3 true).2 :=
  body_sound (φ := (tabS [(i_SzMl, e_SzMl), (i_ToMl, e_ToMl), (i_toHd, e_toHd), (i_sEagerGive, e_sEagerGive), (i_iEagerGive, e_iEagerGive), (i_EqMl, e_EqMl), (i_mkMl, e_mkMl), (i_hdMl, e_hdMl)])) (tabS_cons s_SzMl (tabS_cons s_ToMl (tabS_cons s_toHd (tabS_cons s_sEagerGive (tabS_cons s_iEagerGive (tabS_cons s_EqMl (tabS_cons s_mkMl (tabS_cons s_hdMl tabS_nil)))))))) mixed (kp := kp_xEagerGive) (n := 0) func3 (c := bodyOf F_xEagerGive) (by kernel_rfl) (body_xEagerGive m h w hm hh 0) (name_ok (by kernel_rfl))
end Go.Mach.F
end
