/- Marks of things, of waste. Conditions: none. -/
import Derived.Test.YtkbhcdenfigpoaaFd
import Derived.Test.YtkbhcdenfigpoaaSe
set_option linter.all false
namespace Go.Mach.F
open Go Go.Mach Go.Proofs.Try
--=set_option maxRecDepth 100000
def m1_ThS (x : Th) (k : Int) : Th := ⟨(k), (k + 1), (k + 1 + 1)⟩
def c1_ThS (x : Th) : Nat := 1 + 1 + 1
def okh_ThS (x : List Th × Int) : Prop := okq_ThS x.1 ∧ 0 ≤ x.2 ∧ x.2 + cntL c1_ThS x.1 ≤ BM
def eah_ThS (x : List Th × Int) : List Arg := [aT (eL 3 Th.cs x.1), aI x.2]
def eam_ThS (x : List Th × Int) : List Arg := [lT (eL 3 Th.cs x.1), aI x.2]
def mk_ThS (l : List Th) (k : Int) : List Th := markL m1_ThS c1_ThS l k
def f_hdThS (x : List Th × Int) : Int := if x.1 = mk_ThS x.1 x.2 then x.2 + cntL c1_ThS x.1 else -1
def f_mkThS (x : List Th × Int) : List Th := mk_ThS x.1 x.2
def f_ctThS (x : List Th × Int) : Int := x.2 + cntL c1_ThS x.1
noncomputable def e_hdThS : Ent := ent [] okh_ThS eah_ThS (erI 2) f_hdThS
noncomputable def e_mkThS : Ent := ent [1] okh_ThS eam_ThS (fun x => ([oT (.int .i64 (f_ctThS x))], [oT (eL 3 Th.cs (f_mkThS x)), nul])) fun x => x
theorem eah_ThS_inj (x y : List Th × Int) (h : eah_ThS x = eah_ThS y) : x = y := by
  simp only [eah_ThS, aI, aT, List.cons.injEq, Prod.mk.injEq, true_and, and_true, C.tr.injEq, T.int.injEq] at h
  exact Prod.ext (eL_inj Th.cs_inj h.1) h.2
theorem eam_ThS_inj (x y : List Th × Int) (h : eam_ThS x = eam_ThS y) : x = y := by
  simp only [eam_ThS, lT, aI, aT, List.cons.injEq, Prod.mk.injEq, true_and, and_true, C.tr.injEq, T.int.injEq] at h
  exact Prod.ext (eL_inj Th.cs_inj h.1) h.2
def i_mkThS : Nat := 159
noncomputable abbrev F_mkThS : Func := f159
def kp_mkThS : List (Nat × List Nat) := [(0, [0, 4, 2]), (1, [0, 4, 20, 2]), (2, [0, 4, 20, 36, 2]), (3, [0, 4, 20, 2]), (4, [0, 4, 20, 2]), (5, [0, 4, 20, 2]), (6, [0, 4, 20, 2]), (7, [0, 4, 20, 2]), (8, [0, 4, 20, 2]), (9, [0, 4, 20, 2]), (10, [16, 2])]
def ts_mkThS : List Nat := [1, 0]
def st_mkThS_1 (l : List Th) (k : Int) (x4 : Int) (x20 : Int) (nx2 : Nat) (fx2 : Nat → Nat → T) : St := [(0, ⟨z0, [(false, [(C.ref 2 0 [0, 0] 3 0 l.length)])]⟩), (4, ⟨z0, [(false, [.tr true (T.int IntKind.i64 x4)])]⟩), (20, ⟨z0, [(false, [.tr true (T.int IntKind.i64 x20)])]⟩), (2, ⟨z0, [(false, [.tr true (.arr (3) (nx2) (fx2))])]⟩)]
def ex_mkThS_1_1 (l : List Th) (k : Int) (x4 : Int) (x20 : Int) (nx2 : Nat) (fx2 : Nat → Nat → T) : St := [(0, ⟨z0, [(false, [(C.ref 2 0 [0, 0] 3 0 l.length)])]⟩), (4, ⟨z0, [(false, [.tr true (T.int IntKind.i64 x4)])]⟩), (20, ⟨z0, [(false, [.tr true (T.int IntKind.i64 x20)])]⟩), (36, ⟨z0, []⟩), (2, ⟨z0, [(false, [.tr true (.arr (3) (nx2) (fx2))])]⟩)]
theorem round_mkThS_1 (l : List Th) (k : Int) (x4 : Int) (x20 : Int) (nx2 : Nat) (fx2 : Nat → Nat → T) (n : Nat) (K : Ex → St → Res) : roundAt prog (tabS []) kp_mkThS F_mkThS [1, 0, 1, 0] n (st_mkThS_1 l k x4 x20 nx2 fx2) K = (
 bif decide (x20 < (↑l.length : Int)) then
  gd (decide (0 ≤ x20) && (x20.toNat.blt l.length && true)) <|
  gd ((0 + x20.toNat).blt nx2 && true && true) <|
  gd (decide (0 ≤ x20) && (x20.toNat.blt l.length && true)) <|
  gd ((0 + x20.toNat).blt nx2 && true && true) <|
  gd (decide (0 ≤ x20) && (x20.toNat.blt l.length && true)) <|
  gd ((0 + x20.toNat).blt nx2 && true && true) <|
  K .normal (st_mkThS_1 l k (IntKind.i64.wrap (IntKind.i64.wrap (IntKind.i64.wrap (x4 + 1) + 1) + 1)) (IntKind.i64.wrap (x20 + 1)) (nx2) (setF (0 + x20.toNat) 2 (T.int IntKind.i64 (IntKind.i64.wrap (IntKind.i64.wrap (x4 + 1) + 1)))
  (setF (0 + x20.toNat) 1 (T.int IntKind.i64 (IntKind.i64.wrap (x4 + 1)))
    (setF (0 + x20.toNat) 0 (T.int IntKind.i64 x4) fx2))))
 else
 K (.exit 0) (ex_mkThS_1_1 l k x4 x20 nx2 fx2)) := by kernel_rfl
theorem post_mkThS_1_1 (l : List Th) (k : Int) (x4 : Int) (x20 : Int) (nx2 : Nat) (fx2 : Nat → Nat → T) (n : Nat) : contAt prog (tabS []) kp_mkThS F_mkThS ts_mkThS [1, 0, 1, 0] [] n (.exit 0) (ex_mkThS_1_1 l k x4 x20 nx2 fx2) = (
 some ([(false, [.tr true (T.int IntKind.i64 x4)])], [(false, [.tr true (.arr (3) (nx2) (fx2))]), (false, [])])) := by kernel_rfl
theorem pre_mkThS (l : List Th) (k : Int) (n : Nat) : body prog (tabS []) kp_mkThS n F_mkThS [lT (eL 3 Th.cs l), aI k] = (
 loopAt prog (tabS []) kp_mkThS F_mkThS [1, 0, 1, 0] n n (st_mkThS_1 l k (k) (0) (T.ln (eL 3 Th.cs l)) (T.fn (eL 3 Th.cs l))) (contAt prog (tabS []) kp_mkThS F_mkThS ts_mkThS [1, 0, 1, 0] [] n)) := by kernel_rfl
theorem body_mkThS (l : List Th) (k : Int) (h : okh_ThS (l, k)) : body prog (tabS []) kp_mkThS (l.length + 1) F_mkThS (eam_ThS (l, k)) = some ([oT (.int .i64 (f_ctThS (l, k)))], [oT (eL 3 Th.cs (f_mkThS (l, k))), nul]) := by
  obtain ⟨hl, hk0, hk1⟩ := h
  have hbm := bm
  dsimp only at hl hk0 hk1
  have hl' : l.length ≤ BM := hl.1
  unfold eam_ThS f_ctThS f_mkThS
  dsimp only
  rw [pre_mkThS]
  have hst : st_mkThS_1 l k k 0 l.length (atL Th.cs l) = (fun i : Nat => st_mkThS_1 l k (k + cntL c1_ThS (l.take i)) (i : Nat) l.length (atL Th.cs (mkd m1_ThS c1_ThS l k i))) 0 := by simp [cntL, mkd_zero]
  refine Eq.trans (congrArg (fun s => loopAt prog _ _ _ _ _ _ s _) hst) ?_
  rw [forLoop l.length (fun i : Nat => st_mkThS_1 l k (k + cntL c1_ThS (l.take i)) (i : Nat) l.length (atL Th.cs (mkd m1_ThS c1_ThS l k i))) (ex_mkThS_1_1 l k (k + cntL c1_ThS l) l.length l.length (atL Th.cs (mk_ThS l k))) 0 (fun i K hi => ?_) (fun K => ?_) _ (Nat.le_refl _)]
  · rw [post_mkThS_1_1]
    have := markL_len m1_ThS c1_ThS l k
    rw [eL_T, show (mk_ThS l k).length = l.length from this]
    rfl
  · have hx := List.getElem?_eq_getElem hi
    obtain ⟨x, hxe⟩ : ∃ x, x = l[i] := ⟨_, rfl⟩
    rw [← hxe] at hx
    have hxm : x ∈ l := List.mem_of_getElem? hx
    have hg := mkd_get m1_ThS c1_ThS l k hx
    have hc := cntL_take c1_ThS l hx
    have hcl := cntL_le c1_ThS l (i + 1)
    have hcx : c1_ThS x = 1 + 1 + 1 := rfl
    
    rw [hc, round_mkThS_1]
    have hms := mkd_set m1_ThS c1_ThS l k hx
    have hml : i < (mkd m1_ThS c1_ThS l k i).length := by rw [mkd_len _ _ _ _ (by omega)]; exact hi
    obtain ⟨k0, hk⟩ : ∃ k0, k0 = k + (cntL c1_ThS (l.take i) : Int) := ⟨_, rfl⟩
    have hk2 : k + ((cntL c1_ThS (l.take i) + c1_ThS x : Nat) : Int) = k0 + 1 + 1 + 1 := by omega
    rw [hk2]
    rw [← hk] at hms ⊢
    
    simp (disch := omega) only [lt_d, ge0_d, Int.toNat_natCast, blt_d, ble_self, beq_self, decide_true, cond_true, Bool.and_self, Bool.and_true, Bool.true_and, gd_true, Nat.zero_add, List.getD_cons_zero, List.getD_cons_succ, isI_int, toI_int, isB_bool, toB_bool, eL_T, arr_ln, arr_fn, arr_wd, arr_is, arr_get, hi, atL_of hg, Th.cs, wrapI, wrapS, setF_d, and_self, if_true, if_false, true_and, false_and, and_true, and_false, Nat.add_zero, Nat.reduceEqDiff, Nat.reduceAdd]
    rw [← hms]
    congr 2
    refine set_atL hml fun j' k' => ?_
    by_cases e : j' = i
    · subst e
      rcases k' with _ | _ | _ | k' <;> simp [setF_d, Th.cs, m1_ThS, atL_of hg, eL_T]
    · simp [setF_d, e]
  · rw [round_mkThS_1, mkd_all]
    simp only [lt_d, Nat.lt_irrefl, decide_false, cond_false, List.take_length]
    rfl
theorem s_mkThS : EntOk prog i_mkThS e_mkThS := ent_ok eam_ThS_inj fun x hx =>
  body_sound (φ := (tabS [])) tabS_nil mixed (kp := kp_mkThS) (n := x.1.length + 1) func159 (c := bodyOf F_mkThS) (by kernel_rfl) (body_mkThS x.1 x.2 hx) (name_ok (by kernel_rfl))

theorem dm_hdThS {l : List Th} {k : Int} (h : okh_ThS (l, k)) : dom okh_ThS eah_ThS [(0, false, [C.tr false (T.arr 3 l.length (atL Th.cs l))]), (0, false, [C.tr false (T.int IntKind.i64 k)])] = true := dom_ea (ea := eah_ThS) (x := (l, k)) h
theorem iv_hdThS {l : List Th} {k : Int} (h : okh_ThS (l, k)) : inv okh_ThS eah_ThS [(0, false, [C.tr false (T.arr 3 l.length (atL Th.cs l))]), (0, false, [C.tr false (T.int IntKind.i64 k)])] = (l, k) := inv_ea eah_ThS_inj (x := (l, k)) h
theorem y_hdThS {l : List Th} {k : Int} (h : l = mk_ThS l k) : f_hdThS (l, k) = k + cntL c1_ThS l := if_pos h
theorem n_hdThS {l : List Th} {k : Int} (h : ¬ l = mk_ThS l k) : f_hdThS (l, k) = -1 := if_neg h
theorem dm_mkThS {l : List Th} {k : Int} (h : okh_ThS (l, k)) : dom okh_ThS eam_ThS [(1, false, [C.tr true (T.arr 3 l.length (atL Th.cs l))]), (0, false, [C.tr false (T.int IntKind.i64 k)])] = true := dom_ea (ea := eam_ThS) (x := (l, k)) h
theorem iv_mkThS {l : List Th} {k : Int} (h : okh_ThS (l, k)) : inv okh_ThS eam_ThS [(1, false, [C.tr true (T.arr 3 l.length (atL Th.cs l))]), (0, false, [C.tr false (T.int IntKind.i64 k)])] = (l, k) := inv_ea eam_ThS_inj (x := (l, k)) h
theorem len_mkThS (l : List Th) (k : Int) : (mk_ThS l k).length = l.length := markL_len _ _ _ _
theorem d_mkThS (l : List Th) (k : Int) : f_mkThS (l, k) = mk_ThS l k := rfl
theorem d_ctThS (l : List Th) (k : Int) : f_ctThS (l, k) = k + cntL c1_ThS l := rfl
def m1_WsS (x : Ws) (k : Int) : Ws := ⟨(k), (k + 1), (mk_LI x.tags (k + 1 + 1)), (mk_LI x.chunks (k + 1 + 1 + cntL c1_LI x.tags)), (k + 1 + 1 + cntL c1_LI x.tags + cntL c1_LI x.chunks)⟩
def c1_WsS (x : Ws) : Nat := 1 + 1 + cntL c1_LI x.tags + cntL c1_LI x.chunks + 1
def okh_WsS (x : List Ws × Int) : Prop := okq_WsS x.1 ∧ 0 ≤ x.2 ∧ x.2 + cntL c1_WsS x.1 ≤ BM
def eah_WsS (x : List Ws × Int) : List Arg := [aT (eL 5 Ws.cs x.1), aI x.2]
def eam_WsS (x : List Ws × Int) : List Arg := [lT (eL 5 Ws.cs x.1), aI x.2]
def mk_WsS (l : List Ws) (k : Int) : List Ws := markL m1_WsS c1_WsS l k
def f_hdWsS (x : List Ws × Int) : Int := if x.1 = mk_WsS x.1 x.2 then x.2 + cntL c1_WsS x.1 else -1
def f_mkWsS (x : List Ws × Int) : List Ws := mk_WsS x.1 x.2
def f_ctWsS (x : List Ws × Int) : Int := x.2 + cntL c1_WsS x.1
noncomputable def e_hdWsS : Ent := ent [] okh_WsS eah_WsS (erI 2) f_hdWsS
noncomputable def e_mkWsS : Ent := ent [1] okh_WsS eam_WsS (fun x => ([oT (.int .i64 (f_ctWsS x))], [oT (eL 5 Ws.cs (f_mkWsS x)), nul])) fun x => x
theorem eah_WsS_inj (x y : List Ws × Int) (h : eah_WsS x = eah_WsS y) : x = y := by
  simp only [eah_WsS, aI, aT, List.cons.injEq, Prod.mk.injEq, true_and, and_true, C.tr.injEq, T.int.injEq] at h
  exact Prod.ext (eL_inj Ws.cs_inj h.1) h.2
theorem eam_WsS_inj (x y : List Ws × Int) (h : eam_WsS x = eam_WsS y) : x = y := by
  simp only [eam_WsS, lT, aI, aT, List.cons.injEq, Prod.mk.injEq, true_and, and_true, C.tr.injEq, T.int.injEq] at h
  exact Prod.ext (eL_inj Ws.cs_inj h.1) h.2
def i_mkWsS : Nat := 100
noncomputable abbrev F_mkWsS : Func := f100
def kp_mkWsS : List (Nat × List Nat) := [(0, [0, 4, 2]), (1, [0, 4, 20, 2]), (2, [0, 4, 20, 36, 2]), (3, [0, 4, 20, 2]), (4, [0, 4, 20, 2]), (5, [0, 4, 20, 2]), (6, [0, 4, 20, 2]), (7, [0, 4, 20, 2]), (8, [0, 4, 20, 2]), (9, [0, 4, 20, 2]), (10, [0, 4, 20, 2]), (11, [0, 4, 20, 2]), (12, [16, 2])]
def ts_mkWsS : List Nat := [1, 0]
def st_mkWsS_1 (l : List Ws) (k : Int) (x4 : Int) (x20 : Int) (nx2 : Nat) (fx2 : Nat → Nat → T) : St := [(0, ⟨z0, [(false, [(C.ref 2 0 [0, 0] 5 0 l.length)])]⟩), (4, ⟨z0, [(false, [.tr true (T.int IntKind.i64 x4)])]⟩), (20, ⟨z0, [(false, [.tr true (T.int IntKind.i64 x20)])]⟩), (2, ⟨z0, [(false, [.tr true (.arr (5) (nx2) (fx2))])]⟩)]
def ex_mkWsS_1_1 (l : List Ws) (k : Int) (x4 : Int) (x20 : Int) (nx2 : Nat) (fx2 : Nat → Nat → T) : St := [(0, ⟨z0, [(false, [(C.ref 2 0 [0, 0] 5 0 l.length)])]⟩), (4, ⟨z0, [(false, [.tr true (T.int IntKind.i64 x4)])]⟩), (20, ⟨z0, [(false, [.tr true (T.int IntKind.i64 x20)])]⟩), (36, ⟨z0, []⟩), (2, ⟨z0, [(false, [.tr true (.arr (5) (nx2) (fx2))])]⟩)]
theorem round_mkWsS_1 (l : List Ws) (k : Int) (x4 : Int) (x20 : Int) (nx2 : Nat) (fx2 : Nat → Nat → T) (n : Nat) (K : Ex → St → Res) : roundAt prog (tabS [(i_mkLI, e_mkLI)]) kp_mkWsS F_mkWsS [1, 0, 1, 0] n (st_mkWsS_1 l k x4 x20 nx2 fx2) K = (
 bif decide (x20 < (↑l.length : Int)) then
  gd (decide (0 ≤ x20) && (x20.toNat.blt l.length && true)) <|
  gd ((0 + x20.toNat).blt nx2 && true && true) <|
  gd (decide (0 ≤ x20) && (x20.toNat.blt l.length && true)) <|
  gd ((0 + x20.toNat).blt nx2 && true && true) <|
  gd (decide (0 ≤ x20) && (x20.toNat.blt l.length && true)) <|
  gd ((0 + x20.toNat).blt nx2 && true &&
  ((setF (0 + x20.toNat) 1 (T.int IntKind.i64 (IntKind.i64.wrap (x4 + 1)))
        (setF (0 + x20.toNat) 0 (T.int IntKind.i64 x4) fx2) (0 + x20.toNat) (2 + 0)).isArr &&
    (setF (0 + x20.toNat) 1 (T.int IntKind.i64 (IntKind.i64.wrap (x4 + 1)))
            (setF (0 + x20.toNat) 0 (T.int IntKind.i64 x4) fx2) (0 + x20.toNat) (2 + 0)).wd.beq
      1)) <|
  gd ((0 + x20.toNat).blt nx2 && true && true &&
  ((T.arr 5 nx2
          (setF (0 + x20.toNat) 1 (T.int IntKind.i64 (IntKind.i64.wrap (x4 + 1)))
            (setF (0 + x20.toNat) 0 (T.int IntKind.i64 x4) fx2))).get
      [0 + x20.toNat, 2 + 0]).isArr) <|
  gd ((setF (0 + x20.toNat) 1 (T.int IntKind.i64 (IntKind.i64.wrap (x4 + 1)))
          (setF (0 + x20.toNat) 0 (T.int IntKind.i64 x4) fx2) (0 + x20.toNat) (2 + 0)).ln.beq
    ((T.arr 5 nx2
            (setF (0 + x20.toNat) 1 (T.int IntKind.i64 (IntKind.i64.wrap (x4 + 1)))
              (setF (0 + x20.toNat) 0 (T.int IntKind.i64 x4) fx2))).get
        [0 + x20.toNat, 2 + 0]).ln &&
  Nat.beq 1
    ((T.arr 5 nx2
            (setF (0 + x20.toNat) 1 (T.int IntKind.i64 (IntKind.i64.wrap (x4 + 1)))
              (setF (0 + x20.toNat) 0 (T.int IntKind.i64 x4) fx2))).get
        [0 + x20.toNat, 2 + 0]).wd) <|
  entK okh_LI eam_LI (fun x => x) [(1, false,
    [C.tr true
        (T.arr 1
          (setF (0 + x20.toNat) 1 (T.int IntKind.i64 (IntKind.i64.wrap (x4 + 1)))
              (setF (0 + x20.toNat) 0 (T.int IntKind.i64 x4) fx2) (0 + x20.toNat) (2 + 0)).ln
          ((T.arr 5 nx2
                  (setF (0 + x20.toNat) 1 (T.int IntKind.i64 (IntKind.i64.wrap (x4 + 1)))
                    (setF (0 + x20.toNat) 0 (T.int IntKind.i64 x4) fx2))).get
              [0 + x20.toNat, 2 + 0]).fn)]),
  (0, false, [C.tr false (T.int IntKind.i64 (IntKind.i64.wrap (IntKind.i64.wrap (x4 + 1) + 1)))])] fun (r1 : List Int × Int) =>
  gd ((setF (0 + x20.toNat) 1 (T.int IntKind.i64 (IntKind.i64.wrap (x4 + 1)))
          (setF (0 + x20.toNat) 0 (T.int IntKind.i64 x4) fx2) (0 + x20.toNat) (2 + 0)).ln.beq
    (f_mkLI r1).length &&
  ((0 + x20.toNat).blt nx2 && true && true)) <|
  gd (decide (0 ≤ x20) && (x20.toNat.blt l.length && true)) <|
  gd ((0 + x20.toNat).blt nx2 && true &&
  ((setF (0 + x20.toNat) (2 + 0) (T.arr 1 (f_mkLI r1).length (atL rowI (f_mkLI r1)))
        (setF (0 + x20.toNat) (2 + 0)
          (T.lent 1
            (setF (0 + x20.toNat) 1 (T.int IntKind.i64 (IntKind.i64.wrap (x4 + 1)))
                (setF (0 + x20.toNat) 0 (T.int IntKind.i64 x4) fx2) (0 + x20.toNat) (2 + 0)).ln)
          (setF (0 + x20.toNat) 1 (T.int IntKind.i64 (IntKind.i64.wrap (x4 + 1)))
            (setF (0 + x20.toNat) 0 (T.int IntKind.i64 x4) fx2)))
        (0 + x20.toNat) (3 + 0)).isArr &&
    (setF (0 + x20.toNat) (2 + 0) (T.arr 1 (f_mkLI r1).length (atL rowI (f_mkLI r1)))
            (setF (0 + x20.toNat) (2 + 0)
              (T.lent 1
                (setF (0 + x20.toNat) 1 (T.int IntKind.i64 (IntKind.i64.wrap (x4 + 1)))
                    (setF (0 + x20.toNat) 0 (T.int IntKind.i64 x4) fx2) (0 + x20.toNat) (2 + 0)).ln)
              (setF (0 + x20.toNat) 1 (T.int IntKind.i64 (IntKind.i64.wrap (x4 + 1)))
                (setF (0 + x20.toNat) 0 (T.int IntKind.i64 x4) fx2)))
            (0 + x20.toNat) (3 + 0)).wd.beq
      1)) <|
  gd ((0 + x20.toNat).blt nx2 && true && true &&
  ((T.arr 5 nx2
          (setF (0 + x20.toNat) (2 + 0) (T.arr 1 (f_mkLI r1).length (atL rowI (f_mkLI r1)))
            (setF (0 + x20.toNat) (2 + 0)
              (T.lent 1
                (setF (0 + x20.toNat) 1 (T.int IntKind.i64 (IntKind.i64.wrap (x4 + 1)))
                    (setF (0 + x20.toNat) 0 (T.int IntKind.i64 x4) fx2) (0 + x20.toNat) (2 + 0)).ln)
              (setF (0 + x20.toNat) 1 (T.int IntKind.i64 (IntKind.i64.wrap (x4 + 1)))
                (setF (0 + x20.toNat) 0 (T.int IntKind.i64 x4) fx2))))).get
      [0 + x20.toNat, 3 + 0]).isArr) <|
  gd ((setF (0 + x20.toNat) (2 + 0) (T.arr 1 (f_mkLI r1).length (atL rowI (f_mkLI r1)))
          (setF (0 + x20.toNat) (2 + 0)
            (T.lent 1
              (setF (0 + x20.toNat) 1 (T.int IntKind.i64 (IntKind.i64.wrap (x4 + 1)))
                  (setF (0 + x20.toNat) 0 (T.int IntKind.i64 x4) fx2) (0 + x20.toNat) (2 + 0)).ln)
            (setF (0 + x20.toNat) 1 (T.int IntKind.i64 (IntKind.i64.wrap (x4 + 1)))
              (setF (0 + x20.toNat) 0 (T.int IntKind.i64 x4) fx2)))
          (0 + x20.toNat) (3 + 0)).ln.beq
    ((T.arr 5 nx2
            (setF (0 + x20.toNat) (2 + 0) (T.arr 1 (f_mkLI r1).length (atL rowI (f_mkLI r1)))
              (setF (0 + x20.toNat) (2 + 0)
                (T.lent 1
                  (setF (0 + x20.toNat) 1 (T.int IntKind.i64 (IntKind.i64.wrap (x4 + 1)))
                      (setF (0 + x20.toNat) 0 (T.int IntKind.i64 x4) fx2) (0 + x20.toNat) (2 + 0)).ln)
                (setF (0 + x20.toNat) 1 (T.int IntKind.i64 (IntKind.i64.wrap (x4 + 1)))
                  (setF (0 + x20.toNat) 0 (T.int IntKind.i64 x4) fx2))))).get
        [0 + x20.toNat, 3 + 0]).ln &&
  Nat.beq 1
    ((T.arr 5 nx2
            (setF (0 + x20.toNat) (2 + 0) (T.arr 1 (f_mkLI r1).length (atL rowI (f_mkLI r1)))
              (setF (0 + x20.toNat) (2 + 0)
                (T.lent 1
                  (setF (0 + x20.toNat) 1 (T.int IntKind.i64 (IntKind.i64.wrap (x4 + 1)))
                      (setF (0 + x20.toNat) 0 (T.int IntKind.i64 x4) fx2) (0 + x20.toNat) (2 + 0)).ln)
                (setF (0 + x20.toNat) 1 (T.int IntKind.i64 (IntKind.i64.wrap (x4 + 1)))
                  (setF (0 + x20.toNat) 0 (T.int IntKind.i64 x4) fx2))))).get
        [0 + x20.toNat, 3 + 0]).wd) <|
  entK okh_LI eam_LI (fun x => x) [(1, false,
    [C.tr true
        (T.arr 1
          (setF (0 + x20.toNat) (2 + 0) (T.arr 1 (f_mkLI r1).length (atL rowI (f_mkLI r1)))
              (setF (0 + x20.toNat) (2 + 0)
                (T.lent 1
                  (setF (0 + x20.toNat) 1 (T.int IntKind.i64 (IntKind.i64.wrap (x4 + 1)))
                      (setF (0 + x20.toNat) 0 (T.int IntKind.i64 x4) fx2) (0 + x20.toNat) (2 + 0)).ln)
                (setF (0 + x20.toNat) 1 (T.int IntKind.i64 (IntKind.i64.wrap (x4 + 1)))
                  (setF (0 + x20.toNat) 0 (T.int IntKind.i64 x4) fx2)))
              (0 + x20.toNat) (3 + 0)).ln
          ((T.arr 5 nx2
                  (setF (0 + x20.toNat) (2 + 0) (T.arr 1 (f_mkLI r1).length (atL rowI (f_mkLI r1)))
                    (setF (0 + x20.toNat) (2 + 0)
                      (T.lent 1
                        (setF (0 + x20.toNat) 1 (T.int IntKind.i64 (IntKind.i64.wrap (x4 + 1)))
                            (setF (0 + x20.toNat) 0 (T.int IntKind.i64 x4) fx2) (0 + x20.toNat) (2 + 0)).ln)
                      (setF (0 + x20.toNat) 1 (T.int IntKind.i64 (IntKind.i64.wrap (x4 + 1)))
                        (setF (0 + x20.toNat) 0 (T.int IntKind.i64 x4) fx2))))).get
              [0 + x20.toNat, 3 + 0]).fn)]),
  (0, false, [C.tr false (T.int IntKind.i64 (f_ctLI r1))])] fun (r2 : List Int × Int) =>
  gd ((setF (0 + x20.toNat) (2 + 0) (T.arr 1 (f_mkLI r1).length (atL rowI (f_mkLI r1)))
          (setF (0 + x20.toNat) (2 + 0)
            (T.lent 1
              (setF (0 + x20.toNat) 1 (T.int IntKind.i64 (IntKind.i64.wrap (x4 + 1)))
                  (setF (0 + x20.toNat) 0 (T.int IntKind.i64 x4) fx2) (0 + x20.toNat) (2 + 0)).ln)
            (setF (0 + x20.toNat) 1 (T.int IntKind.i64 (IntKind.i64.wrap (x4 + 1)))
              (setF (0 + x20.toNat) 0 (T.int IntKind.i64 x4) fx2)))
          (0 + x20.toNat) (3 + 0)).ln.beq
    (f_mkLI r2).length &&
  ((0 + x20.toNat).blt nx2 && true && true)) <|
  gd (decide (0 ≤ x20) && (x20.toNat.blt l.length && true)) <|
  gd ((0 + x20.toNat).blt nx2 && true && true) <|
  K .normal (st_mkWsS_1 l k (IntKind.i64.wrap (f_ctLI r2 + 1)) (IntKind.i64.wrap (x20 + 1)) (nx2) (setF (0 + x20.toNat) 4 (T.int IntKind.i64 (f_ctLI r2))
  (setF (0 + x20.toNat) (3 + 0) (T.arr 1 (f_mkLI r2).length (atL rowI (f_mkLI r2)))
    (setF (0 + x20.toNat) (3 + 0)
      (T.lent 1
        (setF (0 + x20.toNat) (2 + 0) (T.arr 1 (f_mkLI r1).length (atL rowI (f_mkLI r1)))
            (setF (0 + x20.toNat) (2 + 0)
              (T.lent 1
                (setF (0 + x20.toNat) 1 (T.int IntKind.i64 (IntKind.i64.wrap (x4 + 1)))
                    (setF (0 + x20.toNat) 0 (T.int IntKind.i64 x4) fx2) (0 + x20.toNat) (2 + 0)).ln)
              (setF (0 + x20.toNat) 1 (T.int IntKind.i64 (IntKind.i64.wrap (x4 + 1)))
                (setF (0 + x20.toNat) 0 (T.int IntKind.i64 x4) fx2)))
            (0 + x20.toNat) (3 + 0)).ln)
      (setF (0 + x20.toNat) (2 + 0) (T.arr 1 (f_mkLI r1).length (atL rowI (f_mkLI r1)))
        (setF (0 + x20.toNat) (2 + 0)
          (T.lent 1
            (setF (0 + x20.toNat) 1 (T.int IntKind.i64 (IntKind.i64.wrap (x4 + 1)))
                (setF (0 + x20.toNat) 0 (T.int IntKind.i64 x4) fx2) (0 + x20.toNat) (2 + 0)).ln)
          (setF (0 + x20.toNat) 1 (T.int IntKind.i64 (IntKind.i64.wrap (x4 + 1)))
            (setF (0 + x20.toNat) 0 (T.int IntKind.i64 x4) fx2))))))))
 else
 K (.exit 0) (ex_mkWsS_1_1 l k x4 x20 nx2 fx2)) := by kernel_rfl
theorem post_mkWsS_1_1 (l : List Ws) (k : Int) (x4 : Int) (x20 : Int) (nx2 : Nat) (fx2 : Nat → Nat → T) (n : Nat) : contAt prog (tabS [(i_mkLI, e_mkLI)]) kp_mkWsS F_mkWsS ts_mkWsS [1, 0, 1, 0] [] n (.exit 0) (ex_mkWsS_1_1 l k x4 x20 nx2 fx2) = (
 some ([(false, [.tr true (T.int IntKind.i64 x4)])], [(false, [.tr true (.arr (5) (nx2) (fx2))]), (false, [])])) := by kernel_rfl
theorem pre_mkWsS (l : List Ws) (k : Int) (n : Nat) : body prog (tabS [(i_mkLI, e_mkLI)]) kp_mkWsS n F_mkWsS [lT (eL 5 Ws.cs l), aI k] = (
 loopAt prog (tabS [(i_mkLI, e_mkLI)]) kp_mkWsS F_mkWsS [1, 0, 1, 0] n n (st_mkWsS_1 l k (k) (0) (T.ln (eL 5 Ws.cs l)) (T.fn (eL 5 Ws.cs l))) (contAt prog (tabS [(i_mkLI, e_mkLI)]) kp_mkWsS F_mkWsS ts_mkWsS [1, 0, 1, 0] [] n)) := by kernel_rfl
theorem body_mkWsS (l : List Ws) (k : Int) (h : okh_WsS (l, k)) : body prog (tabS [(i_mkLI, e_mkLI)]) kp_mkWsS (l.length + 1) F_mkWsS (eam_WsS (l, k)) = some ([oT (.int .i64 (f_ctWsS (l, k)))], [oT (eL 5 Ws.cs (f_mkWsS (l, k))), nul]) := by
  obtain ⟨hl, hk0, hk1⟩ := h
  have hbm := bm
  dsimp only at hl hk0 hk1
  have hl' : l.length ≤ BM := hl.1
  unfold eam_WsS f_ctWsS f_mkWsS
  dsimp only
  rw [pre_mkWsS]
  have hst : st_mkWsS_1 l k k 0 l.length (atL Ws.cs l) = (fun i : Nat => st_mkWsS_1 l k (k + cntL c1_WsS (l.take i)) (i : Nat) l.length (atL Ws.cs (mkd m1_WsS c1_WsS l k i))) 0 := by simp [cntL, mkd_zero]
  refine Eq.trans (congrArg (fun s => loopAt prog _ _ _ _ _ _ s _) hst) ?_
  rw [forLoop l.length (fun i : Nat => st_mkWsS_1 l k (k + cntL c1_WsS (l.take i)) (i : Nat) l.length (atL Ws.cs (mkd m1_WsS c1_WsS l k i))) (ex_mkWsS_1_1 l k (k + cntL c1_WsS l) l.length l.length (atL Ws.cs (mk_WsS l k))) 0 (fun i K hi => ?_) (fun K => ?_) _ (Nat.le_refl _)]
  · rw [post_mkWsS_1_1]
    have := markL_len m1_WsS c1_WsS l k
    rw [eL_T, show (mk_WsS l k).length = l.length from this]
    rfl
  · have hx := List.getElem?_eq_getElem hi
    obtain ⟨x, hxe⟩ : ∃ x, x = l[i] := ⟨_, rfl⟩
    rw [← hxe] at hx
    have hxm : x ∈ l := List.mem_of_getElem? hx
    have hg := mkd_get m1_WsS c1_WsS l k hx
    have hc := cntL_take c1_WsS l hx
    have hcl := cntL_le c1_WsS l (i + 1)
    have hcx : c1_WsS x = 1 + 1 + cntL c1_LI x.tags + cntL c1_LI x.chunks + 1 := rfl
    have h0 := (hl.2 _ hxm).1
    have h1 := (hl.2 _ hxm).2
    rw [hc, round_mkWsS_1]
    have hms := mkd_set m1_WsS c1_WsS l k hx
    have hml : i < (mkd m1_WsS c1_WsS l k i).length := by rw [mkd_len _ _ _ _ (by omega)]; exact hi
    obtain ⟨k0, hk⟩ : ∃ k0, k0 = k + (cntL c1_WsS (l.take i) : Int) := ⟨_, rfl⟩
    have hk2 : k + ((cntL c1_WsS (l.take i) + c1_WsS x : Nat) : Int) = k0 + 1 + 1 + cntL c1_LI x.tags + cntL c1_LI x.chunks + 1 := by omega
    rw [hk2]
    rw [← hk] at hms ⊢
    have g0 : okh_LI (x.tags, k0 + 1 + 1) := ⟨h0, by dsimp only; omega, by dsimp only; omega⟩
    have g1 : okh_LI (x.chunks, k0 + 1 + 1 + cntL c1_LI x.tags) := ⟨h1, by dsimp only; omega, by dsimp only; omega⟩
    simp (disch := omega) only [lt_d, ge0_d, Int.toNat_natCast, blt_d, ble_self, beq_self, decide_true, cond_true, Bool.and_self, Bool.and_true, Bool.true_and, gd_true, Nat.zero_add, List.getD_cons_zero, List.getD_cons_succ, isI_int, toI_int, isB_bool, toB_bool, eL_T, arr_ln, arr_fn, arr_wd, arr_is, arr_get, hi, atL_of hg, Ws.cs, wrapI, wrapS, setF_d, and_self, if_true, if_false, true_and, false_and, and_true, and_false, Nat.add_zero, Nat.reduceEqDiff, Nat.reduceAdd, entK_of (dm_mkLI g0) (iv_mkLI g0), len_mkLI, d_mkLI, d_ctLI, entK_of (dm_mkLI g1) (iv_mkLI g1), len_mkLI, d_mkLI, d_ctLI]
    rw [← hms]
    congr 2
    refine set_atL hml fun j' k' => ?_
    by_cases e : j' = i
    · subst e
      rcases k' with _ | _ | _ | _ | _ | k' <;> simp [setF_d, Ws.cs, m1_WsS, atL_of hg, eL_T, len_mkLI]
    · simp [setF_d, e]
  · rw [round_mkWsS_1, mkd_all]
    simp only [lt_d, Nat.lt_irrefl, decide_false, cond_false, List.take_length]
    rfl
theorem s_mkWsS : EntOk prog i_mkWsS e_mkWsS := ent_ok eam_WsS_inj fun x hx =>
  body_sound (φ := (tabS [(i_mkLI, e_mkLI)])) (tabS_cons s_mkLI tabS_nil) mixed (kp := kp_mkWsS) (n := x.1.length + 1) func100 (c := bodyOf F_mkWsS) (by kernel_rfl) (body_mkWsS x.1 x.2 hx) (name_ok (by kernel_rfl))

theorem dm_hdWsS {l : List Ws} {k : Int} (h : okh_WsS (l, k)) : dom okh_WsS eah_WsS [(0, false, [C.tr false (T.arr 5 l.length (atL Ws.cs l))]), (0, false, [C.tr false (T.int IntKind.i64 k)])] = true := dom_ea (ea := eah_WsS) (x := (l, k)) h
theorem iv_hdWsS {l : List Ws} {k : Int} (h : okh_WsS (l, k)) : inv okh_WsS eah_WsS [(0, false, [C.tr false (T.arr 5 l.length (atL Ws.cs l))]), (0, false, [C.tr false (T.int IntKind.i64 k)])] = (l, k) := inv_ea eah_WsS_inj (x := (l, k)) h
theorem y_hdWsS {l : List Ws} {k : Int} (h : l = mk_WsS l k) : f_hdWsS (l, k) = k + cntL c1_WsS l := if_pos h
theorem n_hdWsS {l : List Ws} {k : Int} (h : ¬ l = mk_WsS l k) : f_hdWsS (l, k) = -1 := if_neg h
theorem dm_mkWsS {l : List Ws} {k : Int} (h : okh_WsS (l, k)) : dom okh_WsS eam_WsS [(1, false, [C.tr true (T.arr 5 l.length (atL Ws.cs l))]), (0, false, [C.tr false (T.int IntKind.i64 k)])] = true := dom_ea (ea := eam_WsS) (x := (l, k)) h
theorem iv_mkWsS {l : List Ws} {k : Int} (h : okh_WsS (l, k)) : inv okh_WsS eam_WsS [(1, false, [C.tr true (T.arr 5 l.length (atL Ws.cs l))]), (0, false, [C.tr false (T.int IntKind.i64 k)])] = (l, k) := inv_ea eam_WsS_inj (x := (l, k)) h
theorem len_mkWsS (l : List Ws) (k : Int) : (mk_WsS l k).length = l.length := markL_len _ _ _ _
theorem d_mkWsS (l : List Ws) (k : Int) : f_mkWsS (l, k) = mk_WsS l k := rfl
theorem d_ctWsS (l : List Ws) (k : Int) : f_ctWsS (l, k) = k + cntL c1_WsS l := rfl
end Go.Mach.F