/- Lemmas and definitions of the proof (Fo Sa Mk). Conditions: none. -/
import Derived.Test.YtefcnddlkdfjmaaZ4
set_option linter.all false
namespace Go.Mach.F
open Go Go.Mach Go.Proofs.Try
--=set_option maxRecDepth 100000
def m1_NdS (x : Nd) (k : Int) : Nd := ⟨(k), (k + 1), (k + 1 + 1), (k + 1 + 1 + 1), (k + 1 + 1 + 1 + 1), (k + 1 + 1 + 1 + 1 + 1), (k + 1 + 1 + 1 + 1 + 1 + 1), (k + 1 + 1 + 1 + 1 + 1 + 1 + 1), (mk_LI x.chunks (k + 1 + 1 + 1 + 1 + 1 + 1 + 1 + 1)), (k + 1 + 1 + 1 + 1 + 1 + 1 + 1 + 1 + cntL c1_LI x.chunks), (k + 1 + 1 + 1 + 1 + 1 + 1 + 1 + 1 + cntL c1_LI x.chunks + 1), (mk_ThS x.things (k + 1 + 1 + 1 + 1 + 1 + 1 + 1 + 1 + cntL c1_LI x.chunks + 1 + 1)), (mk_LI x.tags (k + 1 + 1 + 1 + 1 + 1 + 1 + 1 + 1 + cntL c1_LI x.chunks + 1 + 1 + cntL c1_ThS x.things))⟩
def c1_NdS (x : Nd) : Nat := 1 + 1 + 1 + 1 + 1 + 1 + 1 + 1 + cntL c1_LI x.chunks + 1 + 1 + cntL c1_ThS x.things + cntL c1_LI x.tags
def okh_NdS (x : List Nd × Int) : Prop := okq_NdS x.1 ∧ 0 ≤ x.2 ∧ x.2 + cntL c1_NdS x.1 ≤ BM
def eam_NdS (x : List Nd × Int) : List Arg := [lT (eL 13 Nd.cs x.1), aI x.2]
def mk_NdS (l : List Nd) (k : Int) : List Nd := markL m1_NdS c1_NdS l k
def f_mkNdS (x : List Nd × Int) : List Nd := mk_NdS x.1 x.2
def f_ctNdS (x : List Nd × Int) : Int := x.2 + cntL c1_NdS x.1
noncomputable def e_mkNdS : Ent := ent [1] okh_NdS eam_NdS (fun x => ([oT (.int .i64 (f_ctNdS x))], [oT (eL 13 Nd.cs (f_mkNdS x)), nul])) fun x => x
theorem eam_NdS_inj (x y : List Nd × Int) (h : eam_NdS x = eam_NdS y) : x = y := by
  simp only [eam_NdS, lT, aI, aT, List.cons.injEq, Prod.mk.injEq, true_and, and_true, C.tr.injEq, T.int.injEq] at h
  exact Prod.ext (eL_inj Nd.cs_inj h.1) h.2
def i_mkNdS : Nat := 92
noncomputable abbrev F_mkNdS : Func := f92
def kp_mkNdS : List (Nat × List Nat) := [(0, [0, 4, 2]), (1, [0, 4, 20, 2]), (2, [0, 4, 20, 36, 2]), (3, [0, 4, 20, 2]), (4, [0, 4, 20, 2]), (5, [0, 4, 20, 2]), (6, [0, 4, 20, 2]), (7, [0, 4, 20, 2]), (8, [0, 4, 20, 2]), (9, [0, 4, 20, 2]), (10, [0, 4, 20, 2]), (11, [0, 4, 20, 2]), (12, [0, 4, 20, 2]), (13, [0, 4, 20, 2]), (14, [0, 4, 20, 2]), (15, [0, 4, 20, 2]), (16, [0, 4, 20, 2]), (17, [0, 4, 20, 2]), (18, [0, 4, 20, 2]), (19, [0, 4, 20, 2]), (20, [0, 4, 20, 2]), (21, [0, 4, 20, 2]), (22, [0, 4, 20, 2]), (23, [0, 4, 20, 2]), (24, [0, 4, 20, 2]), (25, [0, 4, 20, 2]), (26, [0, 4, 20, 2]), (27, [16, 2])]
def ts_mkNdS : List Nat := [1, 0]
def st_mkNdS_1 (l : List Nd) (k : Int) (x4 : Int) (x20 : Int) (nx2 : Nat) (fx2 : Nat → Nat → T) : St := [(0, ⟨z0, [(false, [(C.ref 2 0 [0, 0] 13 0 l.length)])]⟩), (4, ⟨z0, [(false, [.tr true (T.int IntKind.i64 x4)])]⟩), (20, ⟨z0, [(false, [.tr true (T.int IntKind.i64 x20)])]⟩), (2, ⟨z0, [(false, [.tr true (.arr (13) (nx2) (fx2))])]⟩)]
def ex_mkNdS_1_1 (l : List Nd) (k : Int) (x4 : Int) (x20 : Int) (nx2 : Nat) (fx2 : Nat → Nat → T) : St := [(0, ⟨z0, [(false, [(C.ref 2 0 [0, 0] 13 0 l.length)])]⟩), (4, ⟨z0, [(false, [.tr true (T.int IntKind.i64 x4)])]⟩), (20, ⟨z0, [(false, [.tr true (T.int IntKind.i64 x20)])]⟩), (36, ⟨z0, []⟩), (2, ⟨z0, [(false, [.tr true (.arr (13) (nx2) (fx2))])]⟩)]
theorem round_mkNdS_1 (l : List Nd) (k : Int) (x4 : Int) (x20 : Int) (nx2 : Nat) (fx2 : Nat → Nat → T) (n : Nat) (K : Ex → St → Res) : roundAt prog (tabS [(i_mkLI, e_mkLI), (i_mkThS, e_mkThS)]) kp_mkNdS F_mkNdS [1, 0, 1, 0] n (st_mkNdS_1 l k x4 x20 nx2 fx2) K = (
 bif decide (x20 < (↑l.length : Int)) then
  gd (decide (0 ≤ x20) && (x20.toNat.blt l.length && true)) <|
  gd ((0 + x20.toNat).blt nx2 && true && true) <|
  gd (decide (0 ≤ x20) && (x20.toNat.blt l.length && true)) <|
  gd ((0 + x20.toNat).blt nx2 && true && true) <|
  gd (decide (0 ≤ x20) && (x20.toNat.blt l.length && true)) <|
  gd ((0 + x20.toNat).blt nx2 && true && true) <|
  gd (decide (0 ≤ x20) && (x20.toNat.blt l.length && true)) <|
  gd ((0 + x20.toNat).blt nx2 && true && true) <|
  gd (decide (0 ≤ x20) && (x20.toNat.blt l.length && true)) <|
  gd ((0 + x20.toNat).blt nx2 && true && true) <|
  gd (decide (0 ≤ x20) && (x20.toNat.blt l.length && true)) <|
  gd ((0 + x20.toNat).blt nx2 && true && true) <|
  gd (decide (0 ≤ x20) && (x20.toNat.blt l.length && true)) <|
  gd ((0 + x20.toNat).blt nx2 && true && true) <|
  gd (decide (0 ≤ x20) && (x20.toNat.blt l.length && true)) <|
  gd ((0 + x20.toNat).blt nx2 && true && true) <|
  gd (decide (0 ≤ x20) && (x20.toNat.blt l.length && true)) <|
  gd ((0 + x20.toNat).blt nx2 && true &&
  ((setF (0 + x20.toNat) 7
        (T.int IntKind.i64
          (IntKind.i64.wrap
            (IntKind.i64.wrap
                (IntKind.i64.wrap
                    (IntKind.i64.wrap (IntKind.i64.wrap (IntKind.i64.wrap (IntKind.i64.wrap (x4 + 1) + 1) + 1) + 1) +
                      1) +
                  1) +
              1)))
        (setF (0 + x20.toNat) 6
          (T.int IntKind.i64
            (IntKind.i64.wrap
              (IntKind.i64.wrap
                  (IntKind.i64.wrap (IntKind.i64.wrap (IntKind.i64.wrap (IntKind.i64.wrap (x4 + 1) + 1) + 1) + 1) + 1) +
                1)))
          (setF (0 + x20.toNat) 5
            (T.int IntKind.i64
              (IntKind.i64.wrap
                (IntKind.i64.wrap (IntKind.i64.wrap (IntKind.i64.wrap (IntKind.i64.wrap (x4 + 1) + 1) + 1) + 1) + 1)))
            (setF (0 + x20.toNat) 4
              (T.int IntKind.i64
                (IntKind.i64.wrap (IntKind.i64.wrap (IntKind.i64.wrap (IntKind.i64.wrap (x4 + 1) + 1) + 1) + 1)))
              (setF (0 + x20.toNat) 3
                (T.int IntKind.i64 (IntKind.i64.wrap (IntKind.i64.wrap (IntKind.i64.wrap (x4 + 1) + 1) + 1)))
                (setF (0 + x20.toNat) 2 (T.int IntKind.i64 (IntKind.i64.wrap (IntKind.i64.wrap (x4 + 1) + 1)))
                  (setF (0 + x20.toNat) 1 (T.int IntKind.i64 (IntKind.i64.wrap (x4 + 1)))
                    (setF (0 + x20.toNat) 0 (T.int IntKind.i64 x4) fx2)))))))
        (0 + x20.toNat) (8 + 0)).isArr &&
    (setF (0 + x20.toNat) 7
            (T.int IntKind.i64
              (IntKind.i64.wrap
                (IntKind.i64.wrap
                    (IntKind.i64.wrap
                        (IntKind.i64.wrap
                            (IntKind.i64.wrap (IntKind.i64.wrap (IntKind.i64.wrap (x4 + 1) + 1) + 1) + 1) +
                          1) +
                      1) +
                  1)))
            (setF (0 + x20.toNat) 6
              (T.int IntKind.i64
                (IntKind.i64.wrap
                  (IntKind.i64.wrap
                      (IntKind.i64.wrap (IntKind.i64.wrap (IntKind.i64.wrap (IntKind.i64.wrap (x4 + 1) + 1) + 1) + 1) +
                        1) +
                    1)))
              (setF (0 + x20.toNat) 5
                (T.int IntKind.i64
                  (IntKind.i64.wrap
                    (IntKind.i64.wrap (IntKind.i64.wrap (IntKind.i64.wrap (IntKind.i64.wrap (x4 + 1) + 1) + 1) + 1) +
                      1)))
                (setF (0 + x20.toNat) 4
                  (T.int IntKind.i64
                    (IntKind.i64.wrap (IntKind.i64.wrap (IntKind.i64.wrap (IntKind.i64.wrap (x4 + 1) + 1) + 1) + 1)))
                  (setF (0 + x20.toNat) 3
                    (T.int IntKind.i64 (IntKind.i64.wrap (IntKind.i64.wrap (IntKind.i64.wrap (x4 + 1) + 1) + 1)))
                    (setF (0 + x20.toNat) 2 (T.int IntKind.i64 (IntKind.i64.wrap (IntKind.i64.wrap (x4 + 1) + 1)))
                      (setF (0 + x20.toNat) 1 (T.int IntKind.i64 (IntKind.i64.wrap (x4 + 1)))
                        (setF (0 + x20.toNat) 0 (T.int IntKind.i64 x4) fx2)))))))
            (0 + x20.toNat) (8 + 0)).wd.beq
      1)) <|
  gd ((0 + x20.toNat).blt nx2 && true && true &&
  ((T.arr 13 nx2
          (setF (0 + x20.toNat) 7
            (T.int IntKind.i64
              (IntKind.i64.wrap
                (IntKind.i64.wrap
                    (IntKind.i64.wrap
                        (IntKind.i64.wrap
                            (IntKind.i64.wrap (IntKind.i64.wrap (IntKind.i64.wrap (x4 + 1) + 1) + 1) + 1) +
                          1) +
                      1) +
                  1)))
            (setF (0 + x20.toNat) 6
              (T.int IntKind.i64
                (IntKind.i64.wrap
                  (IntKind.i64.wrap
                      (IntKind.i64.wrap (IntKind.i64.wrap (IntKind.i64.wrap (IntKind.i64.wrap (x4 + 1) + 1) + 1) + 1) +
                        1) +
                    1)))
              (setF (0 + x20.toNat) 5
                (T.int IntKind.i64
                  (IntKind.i64.wrap
                    (IntKind.i64.wrap (IntKind.i64.wrap (IntKind.i64.wrap (IntKind.i64.wrap (x4 + 1) + 1) + 1) + 1) +
                      1)))
                (setF (0 + x20.toNat) 4
                  (T.int IntKind.i64
                    (IntKind.i64.wrap (IntKind.i64.wrap (IntKind.i64.wrap (IntKind.i64.wrap (x4 + 1) + 1) + 1) + 1)))
                  (setF (0 + x20.toNat) 3
                    (T.int IntKind.i64 (IntKind.i64.wrap (IntKind.i64.wrap (IntKind.i64.wrap (x4 + 1) + 1) + 1)))
                    (setF (0 + x20.toNat) 2 (T.int IntKind.i64 (IntKind.i64.wrap (IntKind.i64.wrap (x4 + 1) + 1)))
                      (setF (0 + x20.toNat) 1 (T.int IntKind.i64 (IntKind.i64.wrap (x4 + 1)))
                        (setF (0 + x20.toNat) 0 (T.int IntKind.i64 x4) fx2))))))))).get
      [0 + x20.toNat, 8 + 0]).isArr) <|
  gd ((setF (0 + x20.toNat) 7
          (T.int IntKind.i64
            (IntKind.i64.wrap
              (IntKind.i64.wrap
                  (IntKind.i64.wrap
                      (IntKind.i64.wrap (IntKind.i64.wrap (IntKind.i64.wrap (IntKind.i64.wrap (x4 + 1) + 1) + 1) + 1) +
                        1) +
                    1) +
                1)))
          (setF (0 + x20.toNat) 6
            (T.int IntKind.i64
              (IntKind.i64.wrap
                (IntKind.i64.wrap
                    (IntKind.i64.wrap (IntKind.i64.wrap (IntKind.i64.wrap (IntKind.i64.wrap (x4 + 1) + 1) + 1) + 1) +
                      1) +
                  1)))
            (setF (0 + x20.toNat) 5
              (T.int IntKind.i64
                (IntKind.i64.wrap
                  (IntKind.i64.wrap (IntKind.i64.wrap (IntKind.i64.wrap (IntKind.i64.wrap (x4 + 1) + 1) + 1) + 1) + 1)))
              (setF (0 + x20.toNat) 4
                (T.int IntKind.i64
                  (IntKind.i64.wrap (IntKind.i64.wrap (IntKind.i64.wrap (IntKind.i64.wrap (x4 + 1) + 1) + 1) + 1)))
                (setF (0 + x20.toNat) 3
                  (T.int IntKind.i64 (IntKind.i64.wrap (IntKind.i64.wrap (IntKind.i64.wrap (x4 + 1) + 1) + 1)))
                  (setF (0 + x20.toNat) 2 (T.int IntKind.i64 (IntKind.i64.wrap (IntKind.i64.wrap (x4 + 1) + 1)))
                    (setF (0 + x20.toNat) 1 (T.int IntKind.i64 (IntKind.i64.wrap (x4 + 1)))
                      (setF (0 + x20.toNat) 0 (T.int IntKind.i64 x4) fx2)))))))
          (0 + x20.toNat) (8 + 0)).ln.beq
    ((T.arr 13 nx2
            (setF (0 + x20.toNat) 7
              (T.int IntKind.i64
                (IntKind.i64.wrap
                  (IntKind.i64.wrap
                      (IntKind.i64.wrap
                          (IntKind.i64.wrap
                              (IntKind.i64.wrap (IntKind.i64.wrap (IntKind.i64.wrap (x4 + 1) + 1) + 1) + 1) +
                            1) +
                        1) +
                    1)))
              (setF (0 + x20.toNat) 6
                (T.int IntKind.i64
                  (IntKind.i64.wrap
                    (IntKind.i64.wrap
                        (IntKind.i64.wrap
                            (IntKind.i64.wrap (IntKind.i64.wrap (IntKind.i64.wrap (x4 + 1) + 1) + 1) + 1) +
                          1) +
                      1)))
                (setF (0 + x20.toNat) 5
                  (T.int IntKind.i64
                    (IntKind.i64.wrap
                      (IntKind.i64.wrap (IntKind.i64.wrap (IntKind.i64.wrap (IntKind.i64.wrap (x4 + 1) + 1) + 1) + 1) +
                        1)))
                  (setF (0 + x20.toNat) 4
                    (T.int IntKind.i64
                      (IntKind.i64.wrap (IntKind.i64.wrap (IntKind.i64.wrap (IntKind.i64.wrap (x4 + 1) + 1) + 1) + 1)))
                    (setF (0 + x20.toNat) 3
                      (T.int IntKind.i64 (IntKind.i64.wrap (IntKind.i64.wrap (IntKind.i64.wrap (x4 + 1) + 1) + 1)))
                      (setF (0 + x20.toNat) 2 (T.int IntKind.i64 (IntKind.i64.wrap (IntKind.i64.wrap (x4 + 1) + 1)))
                        (setF (0 + x20.toNat) 1 (T.int IntKind.i64 (IntKind.i64.wrap (x4 + 1)))
                          (setF (0 + x20.toNat) 0 (T.int IntKind.i64 x4) fx2))))))))).get
        [0 + x20.toNat, 8 + 0]).ln &&
  Nat.beq 1
    ((T.arr 13 nx2
            (setF (0 + x20.toNat) 7
              (T.int IntKind.i64
                (IntKind.i64.wrap
                  (IntKind.i64.wrap
                      (IntKind.i64.wrap
                          (IntKind.i64.wrap
                              (IntKind.i64.wrap (IntKind.i64.wrap (IntKind.i64.wrap (x4 + 1) + 1) + 1) + 1) +
                            1) +
                        1) +
                    1)))
              (setF (0 + x20.toNat) 6
                (T.int IntKind.i64
                  (IntKind.i64.wrap
                    (IntKind.i64.wrap
                        (IntKind.i64.wrap
                            (IntKind.i64.wrap (IntKind.i64.wrap (IntKind.i64.wrap (x4 + 1) + 1) + 1) + 1) +
                          1) +
                      1)))
                (setF (0 + x20.toNat) 5
                  (T.int IntKind.i64
                    (IntKind.i64.wrap
                      (IntKind.i64.wrap (IntKind.i64.wrap (IntKind.i64.wrap (IntKind.i64.wrap (x4 + 1) + 1) + 1) + 1) +
                        1)))
                  (setF (0 + x20.toNat) 4
                    (T.int IntKind.i64
                      (IntKind.i64.wrap (IntKind.i64.wrap (IntKind.i64.wrap (IntKind.i64.wrap (x4 + 1) + 1) + 1) + 1)))
                    (setF (0 + x20.toNat) 3
                      (T.int IntKind.i64 (IntKind.i64.wrap (IntKind.i64.wrap (IntKind.i64.wrap (x4 + 1) + 1) + 1)))
                      (setF (0 + x20.toNat) 2 (T.int IntKind.i64 (IntKind.i64.wrap (IntKind.i64.wrap (x4 + 1) + 1)))
                        (setF (0 + x20.toNat) 1 (T.int IntKind.i64 (IntKind.i64.wrap (x4 + 1)))
                          (setF (0 + x20.toNat) 0 (T.int IntKind.i64 x4) fx2))))))))).get
        [0 + x20.toNat, 8 + 0]).wd) <|
  entK okh_LI eam_LI (fun x => x) [(1, false,
    [C.tr true
        (T.arr 1
          (setF (0 + x20.toNat) 7
              (T.int IntKind.i64
                (IntKind.i64.wrap
                  (IntKind.i64.wrap
                      (IntKind.i64.wrap
                          (IntKind.i64.wrap
                              (IntKind.i64.wrap (IntKind.i64.wrap (IntKind.i64.wrap (x4 + 1) + 1) + 1) + 1) +
                            1) +
                        1) +
                    1)))
              (setF (0 + x20.toNat) 6
                (T.int IntKind.i64
                  (IntKind.i64.wrap
                    (IntKind.i64.wrap
                        (IntKind.i64.wrap
                            (IntKind.i64.wrap (IntKind.i64.wrap (IntKind.i64.wrap (x4 + 1) + 1) + 1) + 1) +
                          1) +
                      1)))
                (setF (0 + x20.toNat) 5
                  (T.int IntKind.i64
                    (IntKind.i64.wrap
                      (IntKind.i64.wrap (IntKind.i64.wrap (IntKind.i64.wrap (IntKind.i64.wrap (x4 + 1) + 1) + 1) + 1) +
                        1)))
                  (setF (0 + x20.toNat) 4
                    (T.int IntKind.i64
                      (IntKind.i64.wrap (IntKind.i64.wrap (IntKind.i64.wrap (IntKind.i64.wrap (x4 + 1) + 1) + 1) + 1)))
                    (setF (0 + x20.toNat) 3
                      (T.int IntKind.i64 (IntKind.i64.wrap (IntKind.i64.wrap (IntKind.i64.wrap (x4 + 1) + 1) + 1)))
                      (setF (0 + x20.toNat) 2 (T.int IntKind.i64 (IntKind.i64.wrap (IntKind.i64.wrap (x4 + 1) + 1)))
                        (setF (0 + x20.toNat) 1 (T.int IntKind.i64 (IntKind.i64.wrap (x4 + 1)))
                          (setF (0 + x20.toNat) 0 (T.int IntKind.i64 x4) fx2)))))))
              (0 + x20.toNat) (8 + 0)).ln
          ((T.arr 13 nx2
                  (setF (0 + x20.toNat) 7
                    (T.int IntKind.i64
                      (IntKind.i64.wrap
                        (IntKind.i64.wrap
                            (IntKind.i64.wrap
                                (IntKind.i64.wrap
                                    (IntKind.i64.wrap (IntKind.i64.wrap (IntKind.i64.wrap (x4 + 1) + 1) + 1) + 1) +
                                  1) +
                              1) +
                          1)))
                    (setF (0 + x20.toNat) 6
                      (T.int IntKind.i64
                        (IntKind.i64.wrap
                          (IntKind.i64.wrap
                              (IntKind.i64.wrap
                                  (IntKind.i64.wrap (IntKind.i64.wrap (IntKind.i64.wrap (x4 + 1) + 1) + 1) + 1) +
                                1) +
                            1)))
                      (setF (0 + x20.toNat) 5
                        (T.int IntKind.i64
                          (IntKind.i64.wrap
                            (IntKind.i64.wrap
                                (IntKind.i64.wrap (IntKind.i64.wrap (IntKind.i64.wrap (x4 + 1) + 1) + 1) + 1) +
                              1)))
                        (setF (0 + x20.toNat) 4
                          (T.int IntKind.i64
                            (IntKind.i64.wrap
                              (IntKind.i64.wrap (IntKind.i64.wrap (IntKind.i64.wrap (x4 + 1) + 1) + 1) + 1)))
                          (setF (0 + x20.toNat) 3
                            (T.int IntKind.i64
                              (IntKind.i64.wrap (IntKind.i64.wrap (IntKind.i64.wrap (x4 + 1) + 1) + 1)))
                            (setF (0 + x20.toNat) 2
                              (T.int IntKind.i64 (IntKind.i64.wrap (IntKind.i64.wrap (x4 + 1) + 1)))
                              (setF (0 + x20.toNat) 1 (T.int IntKind.i64 (IntKind.i64.wrap (x4 + 1)))
                                (setF (0 + x20.toNat) 0 (T.int IntKind.i64 x4) fx2))))))))).get
              [0 + x20.toNat, 8 + 0]).fn)]),
  (0, false,
    [C.tr false
        (T.int IntKind.i64
          (IntKind.i64.wrap
            (IntKind.i64.wrap
                (IntKind.i64.wrap
                    (IntKind.i64.wrap
                        (IntKind.i64.wrap
                            (IntKind.i64.wrap (IntKind.i64.wrap (IntKind.i64.wrap (x4 + 1) + 1) + 1) + 1) +
                          1) +
                      1) +
                  1) +
              1)))])] fun (r1 : List Int × Int) =>
  gd ((setF (0 + x20.toNat) 7
          (T.int IntKind.i64
            (IntKind.i64.wrap
              (IntKind.i64.wrap
                  (IntKind.i64.wrap
                      (IntKind.i64.wrap (IntKind.i64.wrap (IntKind.i64.wrap (IntKind.i64.wrap (x4 + 1) + 1) + 1) + 1) +
                        1) +
                    1) +
                1)))
          (setF (0 + x20.toNat) 6
            (T.int IntKind.i64
              (IntKind.i64.wrap
                (IntKind.i64.wrap
                    (IntKind.i64.wrap (IntKind.i64.wrap (IntKind.i64.wrap (IntKind.i64.wrap (x4 + 1) + 1) + 1) + 1) +
                      1) +
                  1)))
            (setF (0 + x20.toNat) 5
              (T.int IntKind.i64
                (IntKind.i64.wrap
                  (IntKind.i64.wrap (IntKind.i64.wrap (IntKind.i64.wrap (IntKind.i64.wrap (x4 + 1) + 1) + 1) + 1) + 1)))
              (setF (0 + x20.toNat) 4
                (T.int IntKind.i64
                  (IntKind.i64.wrap (IntKind.i64.wrap (IntKind.i64.wrap (IntKind.i64.wrap (x4 + 1) + 1) + 1) + 1)))
                (setF (0 + x20.toNat) 3
                  (T.int IntKind.i64 (IntKind.i64.wrap (IntKind.i64.wrap (IntKind.i64.wrap (x4 + 1) + 1) + 1)))
                  (setF (0 + x20.toNat) 2 (T.int IntKind.i64 (IntKind.i64.wrap (IntKind.i64.wrap (x4 + 1) + 1)))
                    (setF (0 + x20.toNat) 1 (T.int IntKind.i64 (IntKind.i64.wrap (x4 + 1)))
                      (setF (0 + x20.toNat) 0 (T.int IntKind.i64 x4) fx2)))))))
          (0 + x20.toNat) (8 + 0)).ln.beq
    (f_mkLI r1).length &&
  ((0 + x20.toNat).blt nx2 && true && true)) <|
  gd (decide (0 ≤ x20) && (x20.toNat.blt l.length && true)) <|
  gd ((0 + x20.toNat).blt nx2 && true && true) <|
  gd (decide (0 ≤ x20) && (x20.toNat.blt l.length && true)) <|
  gd ((0 + x20.toNat).blt nx2 && true && true) <|
  gd (decide (0 ≤ x20) && (x20.toNat.blt l.length && true)) <|
  gd ((0 + x20.toNat).blt nx2 && true &&
  ((setF (0 + x20.toNat) 10 (T.int IntKind.i64 (IntKind.i64.wrap (f_ctLI r1 + 1)))
        (setF (0 + x20.toNat) 9 (T.int IntKind.i64 (f_ctLI r1))
          (setF (0 + x20.toNat) (8 + 0) (T.arr 1 (f_mkLI r1).length (atL rowI (f_mkLI r1)))
            (setF (0 + x20.toNat) (8 + 0)
              (T.lent 1
                (setF (0 + x20.toNat) 7
                    (T.int IntKind.i64
                      (IntKind.i64.wrap
                        (IntKind.i64.wrap
                            (IntKind.i64.wrap
                                (IntKind.i64.wrap
                                    (IntKind.i64.wrap (IntKind.i64.wrap (IntKind.i64.wrap (x4 + 1) + 1) + 1) + 1) +
                                  1) +
                              1) +
                          1)))
                    (setF (0 + x20.toNat) 6
                      (T.int IntKind.i64
                        (IntKind.i64.wrap
                          (IntKind.i64.wrap
                              (IntKind.i64.wrap
                                  (IntKind.i64.wrap (IntKind.i64.wrap (IntKind.i64.wrap (x4 + 1) + 1) + 1) + 1) +
                                1) +
                            1)))
                      (setF (0 + x20.toNat) 5
                        (T.int IntKind.i64
                          (IntKind.i64.wrap
                            (IntKind.i64.wrap
                                (IntKind.i64.wrap (IntKind.i64.wrap (IntKind.i64.wrap (x4 + 1) + 1) + 1) + 1) +
                              1)))
                        (setF (0 + x20.toNat) 4
                          (T.int IntKind.i64
                            (IntKind.i64.wrap
                              (IntKind.i64.wrap (IntKind.i64.wrap (IntKind.i64.wrap (x4 + 1) + 1) + 1) + 1)))
                          (setF (0 + x20.toNat) 3
                            (T.int IntKind.i64
                              (IntKind.i64.wrap (IntKind.i64.wrap (IntKind.i64.wrap (x4 + 1) + 1) + 1)))
                            (setF (0 + x20.toNat) 2
                              (T.int IntKind.i64 (IntKind.i64.wrap (IntKind.i64.wrap (x4 + 1) + 1)))
                              (setF (0 + x20.toNat) 1 (T.int IntKind.i64 (IntKind.i64.wrap (x4 + 1)))
                                (setF (0 + x20.toNat) 0 (T.int IntKind.i64 x4) fx2)))))))
                    (0 + x20.toNat) (8 + 0)).ln)
              (setF (0 + x20.toNat) 7
                (T.int IntKind.i64
                  (IntKind.i64.wrap
                    (IntKind.i64.wrap
                        (IntKind.i64.wrap
                            (IntKind.i64.wrap
                                (IntKind.i64.wrap (IntKind.i64.wrap (IntKind.i64.wrap (x4 + 1) + 1) + 1) + 1) +
                              1) +
                          1) +
                      1)))
                (setF (0 + x20.toNat) 6
                  (T.int IntKind.i64
                    (IntKind.i64.wrap
                      (IntKind.i64.wrap
                          (IntKind.i64.wrap
                              (IntKind.i64.wrap (IntKind.i64.wrap (IntKind.i64.wrap (x4 + 1) + 1) + 1) + 1) +
                            1) +
                        1)))
                  (setF (0 + x20.toNat) 5
                    (T.int IntKind.i64
                      (IntKind.i64.wrap
                        (IntKind.i64.wrap
                            (IntKind.i64.wrap (IntKind.i64.wrap (IntKind.i64.wrap (x4 + 1) + 1) + 1) + 1) +
                          1)))
                    (setF (0 + x20.toNat) 4
                      (T.int IntKind.i64
                        (IntKind.i64.wrap
                          (IntKind.i64.wrap (IntKind.i64.wrap (IntKind.i64.wrap (x4 + 1) + 1) + 1) + 1)))
                      (setF (0 + x20.toNat) 3
                        (T.int IntKind.i64 (IntKind.i64.wrap (IntKind.i64.wrap (IntKind.i64.wrap (x4 + 1) + 1) + 1)))
                        (setF (0 + x20.toNat) 2 (T.int IntKind.i64 (IntKind.i64.wrap (IntKind.i64.wrap (x4 + 1) + 1)))
                          (setF (0 + x20.toNat) 1 (T.int IntKind.i64 (IntKind.i64.wrap (x4 + 1)))
                            (setF (0 + x20.toNat) 0 (T.int IntKind.i64 x4) fx2)))))))))))
        (0 + x20.toNat) (11 + 0)).isArr &&
    (setF (0 + x20.toNat) 10 (T.int IntKind.i64 (IntKind.i64.wrap (f_ctLI r1 + 1)))
            (setF (0 + x20.toNat) 9 (T.int IntKind.i64 (f_ctLI r1))
              (setF (0 + x20.toNat) (8 + 0) (T.arr 1 (f_mkLI r1).length (atL rowI (f_mkLI r1)))
                (setF (0 + x20.toNat) (8 + 0)
                  (T.lent 1
                    (setF (0 + x20.toNat) 7
                        (T.int IntKind.i64
                          (IntKind.i64.wrap
                            (IntKind.i64.wrap
                                (IntKind.i64.wrap
                                    (IntKind.i64.wrap
                                        (IntKind.i64.wrap (IntKind.i64.wrap (IntKind.i64.wrap (x4 + 1) + 1) + 1) + 1) +
                                      1) +
                                  1) +
                              1)))
                        (setF (0 + x20.toNat) 6
                          (T.int IntKind.i64
                            (IntKind.i64.wrap
                              (IntKind.i64.wrap
                                  (IntKind.i64.wrap
                                      (IntKind.i64.wrap (IntKind.i64.wrap (IntKind.i64.wrap (x4 + 1) + 1) + 1) + 1) +
                                    1) +
                                1)))
                          (setF (0 + x20.toNat) 5
                            (T.int IntKind.i64
                              (IntKind.i64.wrap
                                (IntKind.i64.wrap
                                    (IntKind.i64.wrap (IntKind.i64.wrap (IntKind.i64.wrap (x4 + 1) + 1) + 1) + 1) +
                                  1)))
                            (setF (0 + x20.toNat) 4
                              (T.int IntKind.i64
                                (IntKind.i64.wrap
                                  (IntKind.i64.wrap (IntKind.i64.wrap (IntKind.i64.wrap (x4 + 1) + 1) + 1) + 1)))
                              (setF (0 + x20.toNat) 3
                                (T.int IntKind.i64
                                  (IntKind.i64.wrap (IntKind.i64.wrap (IntKind.i64.wrap (x4 + 1) + 1) + 1)))
                                (setF (0 + x20.toNat) 2
                                  (T.int IntKind.i64 (IntKind.i64.wrap (IntKind.i64.wrap (x4 + 1) + 1)))
                                  (setF (0 + x20.toNat) 1 (T.int IntKind.i64 (IntKind.i64.wrap (x4 + 1)))
                                    (setF (0 + x20.toNat) 0 (T.int IntKind.i64 x4) fx2)))))))
                        (0 + x20.toNat) (8 + 0)).ln)
                  (setF (0 + x20.toNat) 7
                    (T.int IntKind.i64
                      (IntKind.i64.wrap
                        (IntKind.i64.wrap
                            (IntKind.i64.wrap
                                (IntKind.i64.wrap
                                    (IntKind.i64.wrap (IntKind.i64.wrap (IntKind.i64.wrap (x4 + 1) + 1) + 1) + 1) +
                                  1) +
                              1) +
                          1)))
                    (setF (0 + x20.toNat) 6
                      (T.int IntKind.i64
                        (IntKind.i64.wrap
                          (IntKind.i64.wrap
                              (IntKind.i64.wrap
                                  (IntKind.i64.wrap (IntKind.i64.wrap (IntKind.i64.wrap (x4 + 1) + 1) + 1) + 1) +
                                1) +
                            1)))
                      (setF (0 + x20.toNat) 5
                        (T.int IntKind.i64
                          (IntKind.i64.wrap
                            (IntKind.i64.wrap
                                (IntKind.i64.wrap (IntKind.i64.wrap (IntKind.i64.wrap (x4 + 1) + 1) + 1) + 1) +
                              1)))
                        (setF (0 + x20.toNat) 4
                          (T.int IntKind.i64
                            (IntKind.i64.wrap
                              (IntKind.i64.wrap (IntKind.i64.wrap (IntKind.i64.wrap (x4 + 1) + 1) + 1) + 1)))
                          (setF (0 + x20.toNat) 3
                            (T.int IntKind.i64
                              (IntKind.i64.wrap (IntKind.i64.wrap (IntKind.i64.wrap (x4 + 1) + 1) + 1)))
                            (setF (0 + x20.toNat) 2
                              (T.int IntKind.i64 (IntKind.i64.wrap (IntKind.i64.wrap (x4 + 1) + 1)))
                              (setF (0 + x20.toNat) 1 (T.int IntKind.i64 (IntKind.i64.wrap (x4 + 1)))
                                (setF (0 + x20.toNat) 0 (T.int IntKind.i64 x4) fx2)))))))))))
            (0 + x20.toNat) (11 + 0)).wd.beq
      3)) <|
  gd ((0 + x20.toNat).blt nx2 && true && true &&
  ((T.arr 13 nx2
          (setF (0 + x20.toNat) 10 (T.int IntKind.i64 (IntKind.i64.wrap (f_ctLI r1 + 1)))
            (setF (0 + x20.toNat) 9 (T.int IntKind.i64 (f_ctLI r1))
              (setF (0 + x20.toNat) (8 + 0) (T.arr 1 (f_mkLI r1).length (atL rowI (f_mkLI r1)))
                (setF (0 + x20.toNat) (8 + 0)
                  (T.lent 1
                    (setF (0 + x20.toNat) 7
                        (T.int IntKind.i64
                          (IntKind.i64.wrap
                            (IntKind.i64.wrap
                                (IntKind.i64.wrap
                                    (IntKind.i64.wrap
                                        (IntKind.i64.wrap (IntKind.i64.wrap (IntKind.i64.wrap (x4 + 1) + 1) + 1) + 1) +
                                      1) +
                                  1) +
                              1)))
                        (setF (0 + x20.toNat) 6
                          (T.int IntKind.i64
                            (IntKind.i64.wrap
                              (IntKind.i64.wrap
                                  (IntKind.i64.wrap
                                      (IntKind.i64.wrap (IntKind.i64.wrap (IntKind.i64.wrap (x4 + 1) + 1) + 1) + 1) +
                                    1) +
                                1)))
                          (setF (0 + x20.toNat) 5
                            (T.int IntKind.i64
                              (IntKind.i64.wrap
                                (IntKind.i64.wrap
                                    (IntKind.i64.wrap (IntKind.i64.wrap (IntKind.i64.wrap (x4 + 1) + 1) + 1) + 1) +
                                  1)))
                            (setF (0 + x20.toNat) 4
                              (T.int IntKind.i64
                                (IntKind.i64.wrap
                                  (IntKind.i64.wrap (IntKind.i64.wrap (IntKind.i64.wrap (x4 + 1) + 1) + 1) + 1)))
                              (setF (0 + x20.toNat) 3
                                (T.int IntKind.i64
                                  (IntKind.i64.wrap (IntKind.i64.wrap (IntKind.i64.wrap (x4 + 1) + 1) + 1)))
                                (setF (0 + x20.toNat) 2
                                  (T.int IntKind.i64 (IntKind.i64.wrap (IntKind.i64.wrap (x4 + 1) + 1)))
                                  (setF (0 + x20.toNat) 1 (T.int IntKind.i64 (IntKind.i64.wrap (x4 + 1)))
                                    (setF (0 + x20.toNat) 0 (T.int IntKind.i64 x4) fx2)))))))
                        (0 + x20.toNat) (8 + 0)).ln)
                  (setF (0 + x20.toNat) 7
                    (T.int IntKind.i64
                      (IntKind.i64.wrap
                        (IntKind.i64.wrap
                            (IntKind.i64.wrap
                                (IntKind.i64.wrap
                                    (IntKind.i64.wrap (IntKind.i64.wrap (IntKind.i64.wrap (x4 + 1) + 1) + 1) + 1) +
                                  1) +
                              1) +
                          1)))
                    (setF (0 + x20.toNat) 6
                      (T.int IntKind.i64
                        (IntKind.i64.wrap
                          (IntKind.i64.wrap
                              (IntKind.i64.wrap
                                  (IntKind.i64.wrap (IntKind.i64.wrap (IntKind.i64.wrap (x4 + 1) + 1) + 1) + 1) +
                                1) +
                            1)))
                      (setF (0 + x20.toNat) 5
                        (T.int IntKind.i64
                          (IntKind.i64.wrap
                            (IntKind.i64.wrap
                                (IntKind.i64.wrap (IntKind.i64.wrap (IntKind.i64.wrap (x4 + 1) + 1) + 1) + 1) +
                              1)))
                        (setF (0 + x20.toNat) 4
                          (T.int IntKind.i64
                            (IntKind.i64.wrap
                              (IntKind.i64.wrap (IntKind.i64.wrap (IntKind.i64.wrap (x4 + 1) + 1) + 1) + 1)))
                          (setF (0 + x20.toNat) 3
                            (T.int IntKind.i64
                              (IntKind.i64.wrap (IntKind.i64.wrap (IntKind.i64.wrap (x4 + 1) + 1) + 1)))
                            (setF (0 + x20.toNat) 2
                              (T.int IntKind.i64 (IntKind.i64.wrap (IntKind.i64.wrap (x4 + 1) + 1)))
                              (setF (0 + x20.toNat) 1 (T.int IntKind.i64 (IntKind.i64.wrap (x4 + 1)))
                                (setF (0 + x20.toNat) 0 (T.int IntKind.i64 x4) fx2))))))))))))).get
      [0 + x20.toNat, 11 + 0]).isArr) <|
  gd ((setF (0 + x20.toNat) 10 (T.int IntKind.i64 (IntKind.i64.wrap (f_ctLI r1 + 1)))
          (setF (0 + x20.toNat) 9 (T.int IntKind.i64 (f_ctLI r1))
            (setF (0 + x20.toNat) (8 + 0) (T.arr 1 (f_mkLI r1).length (atL rowI (f_mkLI r1)))
              (setF (0 + x20.toNat) (8 + 0)
                (T.lent 1
                  (setF (0 + x20.toNat) 7
                      (T.int IntKind.i64
                        (IntKind.i64.wrap
                          (IntKind.i64.wrap
                              (IntKind.i64.wrap
                                  (IntKind.i64.wrap
                                      (IntKind.i64.wrap (IntKind.i64.wrap (IntKind.i64.wrap (x4 + 1) + 1) + 1) + 1) +
                                    1) +
                                1) +
                            1)))
                      (setF (0 + x20.toNat) 6
                        (T.int IntKind.i64
                          (IntKind.i64.wrap
                            (IntKind.i64.wrap
                                (IntKind.i64.wrap
                                    (IntKind.i64.wrap (IntKind.i64.wrap (IntKind.i64.wrap (x4 + 1) + 1) + 1) + 1) +
                                  1) +
                              1)))
                        (setF (0 + x20.toNat) 5
                          (T.int IntKind.i64
                            (IntKind.i64.wrap
                              (IntKind.i64.wrap
                                  (IntKind.i64.wrap (IntKind.i64.wrap (IntKind.i64.wrap (x4 + 1) + 1) + 1) + 1) +
                                1)))
                          (setF (0 + x20.toNat) 4
                            (T.int IntKind.i64
                              (IntKind.i64.wrap
                                (IntKind.i64.wrap (IntKind.i64.wrap (IntKind.i64.wrap (x4 + 1) + 1) + 1) + 1)))
                            (setF (0 + x20.toNat) 3
                              (T.int IntKind.i64
                                (IntKind.i64.wrap (IntKind.i64.wrap (IntKind.i64.wrap (x4 + 1) + 1) + 1)))
                              (setF (0 + x20.toNat) 2
                                (T.int IntKind.i64 (IntKind.i64.wrap (IntKind.i64.wrap (x4 + 1) + 1)))
                                (setF (0 + x20.toNat) 1 (T.int IntKind.i64 (IntKind.i64.wrap (x4 + 1)))
                                  (setF (0 + x20.toNat) 0 (T.int IntKind.i64 x4) fx2)))))))
                      (0 + x20.toNat) (8 + 0)).ln)
                (setF (0 + x20.toNat) 7
                  (T.int IntKind.i64
                    (IntKind.i64.wrap
                      (IntKind.i64.wrap
                          (IntKind.i64.wrap
                              (IntKind.i64.wrap
                                  (IntKind.i64.wrap (IntKind.i64.wrap (IntKind.i64.wrap (x4 + 1) + 1) + 1) + 1) +
                                1) +
                            1) +
                        1)))
                  (setF (0 + x20.toNat) 6
                    (T.int IntKind.i64
                      (IntKind.i64.wrap
                        (IntKind.i64.wrap
                            (IntKind.i64.wrap
                                (IntKind.i64.wrap (IntKind.i64.wrap (IntKind.i64.wrap (x4 + 1) + 1) + 1) + 1) +
                              1) +
                          1)))
                    (setF (0 + x20.toNat) 5
                      (T.int IntKind.i64
                        (IntKind.i64.wrap
                          (IntKind.i64.wrap
                              (IntKind.i64.wrap (IntKind.i64.wrap (IntKind.i64.wrap (x4 + 1) + 1) + 1) + 1) +
                            1)))
                      (setF (0 + x20.toNat) 4
                        (T.int IntKind.i64
                          (IntKind.i64.wrap
                            (IntKind.i64.wrap (IntKind.i64.wrap (IntKind.i64.wrap (x4 + 1) + 1) + 1) + 1)))
                        (setF (0 + x20.toNat) 3
                          (T.int IntKind.i64 (IntKind.i64.wrap (IntKind.i64.wrap (IntKind.i64.wrap (x4 + 1) + 1) + 1)))
                          (setF (0 + x20.toNat) 2 (T.int IntKind.i64 (IntKind.i64.wrap (IntKind.i64.wrap (x4 + 1) + 1)))
                            (setF (0 + x20.toNat) 1 (T.int IntKind.i64 (IntKind.i64.wrap (x4 + 1)))
                              (setF (0 + x20.toNat) 0 (T.int IntKind.i64 x4) fx2)))))))))))
          (0 + x20.toNat) (11 + 0)).ln.beq
    ((T.arr 13 nx2
            (setF (0 + x20.toNat) 10 (T.int IntKind.i64 (IntKind.i64.wrap (f_ctLI r1 + 1)))
              (setF (0 + x20.toNat) 9 (T.int IntKind.i64 (f_ctLI r1))
                (setF (0 + x20.toNat) (8 + 0) (T.arr 1 (f_mkLI r1).length (atL rowI (f_mkLI r1)))
                  (setF (0 + x20.toNat) (8 + 0)
                    (T.lent 1
                      (setF (0 + x20.toNat) 7
                          (T.int IntKind.i64
                            (IntKind.i64.wrap
                              (IntKind.i64.wrap
                                  (IntKind.i64.wrap
                                      (IntKind.i64.wrap
                                          (IntKind.i64.wrap (IntKind.i64.wrap (IntKind.i64.wrap (x4 + 1) + 1) + 1) +
                                            1) +
                                        1) +
                                    1) +
                                1)))
                          (setF (0 + x20.toNat) 6
                            (T.int IntKind.i64
                              (IntKind.i64.wrap
                                (IntKind.i64.wrap
                                    (IntKind.i64.wrap
                                        (IntKind.i64.wrap (IntKind.i64.wrap (IntKind.i64.wrap (x4 + 1) + 1) + 1) + 1) +
                                      1) +
                                  1)))
                            (setF (0 + x20.toNat) 5
                              (T.int IntKind.i64
                                (IntKind.i64.wrap
                                  (IntKind.i64.wrap
                                      (IntKind.i64.wrap (IntKind.i64.wrap (IntKind.i64.wrap (x4 + 1) + 1) + 1) + 1) +
                                    1)))
                              (setF (0 + x20.toNat) 4
                                (T.int IntKind.i64
                                  (IntKind.i64.wrap
                                    (IntKind.i64.wrap (IntKind.i64.wrap (IntKind.i64.wrap (x4 + 1) + 1) + 1) + 1)))
                                (setF (0 + x20.toNat) 3
                                  (T.int IntKind.i64
                                    (IntKind.i64.wrap (IntKind.i64.wrap (IntKind.i64.wrap (x4 + 1) + 1) + 1)))
                                  (setF (0 + x20.toNat) 2
                                    (T.int IntKind.i64 (IntKind.i64.wrap (IntKind.i64.wrap (x4 + 1) + 1)))
                                    (setF (0 + x20.toNat) 1 (T.int IntKind.i64 (IntKind.i64.wrap (x4 + 1)))
                                      (setF (0 + x20.toNat) 0 (T.int IntKind.i64 x4) fx2)))))))
                          (0 + x20.toNat) (8 + 0)).ln)
                    (setF (0 + x20.toNat) 7
                      (T.int IntKind.i64
                        (IntKind.i64.wrap
                          (IntKind.i64.wrap
                              (IntKind.i64.wrap
                                  (IntKind.i64.wrap
                                      (IntKind.i64.wrap (IntKind.i64.wrap (IntKind.i64.wrap (x4 + 1) + 1) + 1) + 1) +
                                    1) +
                                1) +
                            1)))
                      (setF (0 + x20.toNat) 6
                        (T.int IntKind.i64
                          (IntKind.i64.wrap
                            (IntKind.i64.wrap
                                (IntKind.i64.wrap
                                    (IntKind.i64.wrap (IntKind.i64.wrap (IntKind.i64.wrap (x4 + 1) + 1) + 1) + 1) +
                                  1) +
                              1)))
                        (setF (0 + x20.toNat) 5
                          (T.int IntKind.i64
                            (IntKind.i64.wrap
                              (IntKind.i64.wrap
                                  (IntKind.i64.wrap (IntKind.i64.wrap (IntKind.i64.wrap (x4 + 1) + 1) + 1) + 1) +
                                1)))
                          (setF (0 + x20.toNat) 4
                            (T.int IntKind.i64
                              (IntKind.i64.wrap
                                (IntKind.i64.wrap (IntKind.i64.wrap (IntKind.i64.wrap (x4 + 1) + 1) + 1) + 1)))
                            (setF (0 + x20.toNat) 3
                              (T.int IntKind.i64
                                (IntKind.i64.wrap (IntKind.i64.wrap (IntKind.i64.wrap (x4 + 1) + 1) + 1)))
                              (setF (0 + x20.toNat) 2
                                (T.int IntKind.i64 (IntKind.i64.wrap (IntKind.i64.wrap (x4 + 1) + 1)))
                                (setF (0 + x20.toNat) 1 (T.int IntKind.i64 (IntKind.i64.wrap (x4 + 1)))
                                  (setF (0 + x20.toNat) 0 (T.int IntKind.i64 x4) fx2))))))))))))).get
        [0 + x20.toNat, 11 + 0]).ln &&
  Nat.beq 3
    ((T.arr 13 nx2
            (setF (0 + x20.toNat) 10 (T.int IntKind.i64 (IntKind.i64.wrap (f_ctLI r1 + 1)))
              (setF (0 + x20.toNat) 9 (T.int IntKind.i64 (f_ctLI r1))
                (setF (0 + x20.toNat) (8 + 0) (T.arr 1 (f_mkLI r1).length (atL rowI (f_mkLI r1)))
                  (setF (0 + x20.toNat) (8 + 0)
                    (T.lent 1
                      (setF (0 + x20.toNat) 7
                          (T.int IntKind.i64
                            (IntKind.i64.wrap
                              (IntKind.i64.wrap
                                  (IntKind.i64.wrap
                                      (IntKind.i64.wrap
                                          (IntKind.i64.wrap (IntKind.i64.wrap (IntKind.i64.wrap (x4 + 1) + 1) + 1) +
                                            1) +
                                        1) +
                                    1) +
                                1)))
                          (setF (0 + x20.toNat) 6
                            (T.int IntKind.i64
                              (IntKind.i64.wrap
                                (IntKind.i64.wrap
                                    (IntKind.i64.wrap
                                        (IntKind.i64.wrap (IntKind.i64.wrap (IntKind.i64.wrap (x4 + 1) + 1) + 1) + 1) +
                                      1) +
                                  1)))
                            (setF (0 + x20.toNat) 5
                              (T.int IntKind.i64
                                (IntKind.i64.wrap
                                  (IntKind.i64.wrap
                                      (IntKind.i64.wrap (IntKind.i64.wrap (IntKind.i64.wrap (x4 + 1) + 1) + 1) + 1) +
                                    1)))
                              (setF (0 + x20.toNat) 4
                                (T.int IntKind.i64
                                  (IntKind.i64.wrap
                                    (IntKind.i64.wrap (IntKind.i64.wrap (IntKind.i64.wrap (x4 + 1) + 1) + 1) + 1)))
                                (setF (0 + x20.toNat) 3
                                  (T.int IntKind.i64
                                    (IntKind.i64.wrap (IntKind.i64.wrap (IntKind.i64.wrap (x4 + 1) + 1) + 1)))
                                  (setF (0 + x20.toNat) 2
                                    (T.int IntKind.i64 (IntKind.i64.wrap (IntKind.i64.wrap (x4 + 1) + 1)))
                                    (setF (0 + x20.toNat) 1 (T.int IntKind.i64 (IntKind.i64.wrap (x4 + 1)))
                                      (setF (0 + x20.toNat) 0 (T.int IntKind.i64 x4) fx2)))))))
                          (0 + x20.toNat) (8 + 0)).ln)
                    (setF (0 + x20.toNat) 7
                      (T.int IntKind.i64
                        (IntKind.i64.wrap
                          (IntKind.i64.wrap
                              (IntKind.i64.wrap
                                  (IntKind.i64.wrap
                                      (IntKind.i64.wrap (IntKind.i64.wrap (IntKind.i64.wrap (x4 + 1) + 1) + 1) + 1) +
                                    1) +
                                1) +
                            1)))
                      (setF (0 + x20.toNat) 6
                        (T.int IntKind.i64
                          (IntKind.i64.wrap
                            (IntKind.i64.wrap
                                (IntKind.i64.wrap
                                    (IntKind.i64.wrap (IntKind.i64.wrap (IntKind.i64.wrap (x4 + 1) + 1) + 1) + 1) +
                                  1) +
                              1)))
                        (setF (0 + x20.toNat) 5
                          (T.int IntKind.i64
                            (IntKind.i64.wrap
                              (IntKind.i64.wrap
                                  (IntKind.i64.wrap (IntKind.i64.wrap (IntKind.i64.wrap (x4 + 1) + 1) + 1) + 1) +
                                1)))
                          (setF (0 + x20.toNat) 4
                            (T.int IntKind.i64
                              (IntKind.i64.wrap
                                (IntKind.i64.wrap (IntKind.i64.wrap (IntKind.i64.wrap (x4 + 1) + 1) + 1) + 1)))
                            (setF (0 + x20.toNat) 3
                              (T.int IntKind.i64
                                (IntKind.i64.wrap (IntKind.i64.wrap (IntKind.i64.wrap (x4 + 1) + 1) + 1)))
                              (setF (0 + x20.toNat) 2
                                (T.int IntKind.i64 (IntKind.i64.wrap (IntKind.i64.wrap (x4 + 1) + 1)))
                                (setF (0 + x20.toNat) 1 (T.int IntKind.i64 (IntKind.i64.wrap (x4 + 1)))
                                  (setF (0 + x20.toNat) 0 (T.int IntKind.i64 x4) fx2))))))))))))).get
        [0 + x20.toNat, 11 + 0]).wd) <|
  entK okh_ThS eam_ThS (fun x => x) [(1, false,
    [C.tr true
        (T.arr 3
          (setF (0 + x20.toNat) 10 (T.int IntKind.i64 (IntKind.i64.wrap (f_ctLI r1 + 1)))
              (setF (0 + x20.toNat) 9 (T.int IntKind.i64 (f_ctLI r1))
                (setF (0 + x20.toNat) (8 + 0) (T.arr 1 (f_mkLI r1).length (atL rowI (f_mkLI r1)))
                  (setF (0 + x20.toNat) (8 + 0)
                    (T.lent 1
                      (setF (0 + x20.toNat) 7
                          (T.int IntKind.i64
                            (IntKind.i64.wrap
                              (IntKind.i64.wrap
                                  (IntKind.i64.wrap
                                      (IntKind.i64.wrap
                                          (IntKind.i64.wrap (IntKind.i64.wrap (IntKind.i64.wrap (x4 + 1) + 1) + 1) +
                                            1) +
                                        1) +
                                    1) +
                                1)))
                          (setF (0 + x20.toNat) 6
                            (T.int IntKind.i64
                              (IntKind.i64.wrap
                                (IntKind.i64.wrap
                                    (IntKind.i64.wrap
                                        (IntKind.i64.wrap (IntKind.i64.wrap (IntKind.i64.wrap (x4 + 1) + 1) + 1) + 1) +
                                      1) +
                                  1)))
                            (setF (0 + x20.toNat) 5
                              (T.int IntKind.i64
                                (IntKind.i64.wrap
                                  (IntKind.i64.wrap
                                      (IntKind.i64.wrap (IntKind.i64.wrap (IntKind.i64.wrap (x4 + 1) + 1) + 1) + 1) +
                                    1)))
                              (setF (0 + x20.toNat) 4
                                (T.int IntKind.i64
                                  (IntKind.i64.wrap
                                    (IntKind.i64.wrap (IntKind.i64.wrap (IntKind.i64.wrap (x4 + 1) + 1) + 1) + 1)))
                                (setF (0 + x20.toNat) 3
                                  (T.int IntKind.i64
                                    (IntKind.i64.wrap (IntKind.i64.wrap (IntKind.i64.wrap (x4 + 1) + 1) + 1)))
                                  (setF (0 + x20.toNat) 2
                                    (T.int IntKind.i64 (IntKind.i64.wrap (IntKind.i64.wrap (x4 + 1) + 1)))
                                    (setF (0 + x20.toNat) 1 (T.int IntKind.i64 (IntKind.i64.wrap (x4 + 1)))
                                      (setF (0 + x20.toNat) 0 (T.int IntKind.i64 x4) fx2)))))))
                          (0 + x20.toNat) (8 + 0)).ln)
                    (setF (0 + x20.toNat) 7
                      (T.int IntKind.i64
                        (IntKind.i64.wrap
                          (IntKind.i64.wrap
                              (IntKind.i64.wrap
                                  (IntKind.i64.wrap
                                      (IntKind.i64.wrap (IntKind.i64.wrap (IntKind.i64.wrap (x4 + 1) + 1) + 1) + 1) +
                                    1) +
                                1) +
                            1)))
                      (setF (0 + x20.toNat) 6
                        (T.int IntKind.i64
                          (IntKind.i64.wrap
                            (IntKind.i64.wrap
                                (IntKind.i64.wrap
                                    (IntKind.i64.wrap (IntKind.i64.wrap (IntKind.i64.wrap (x4 + 1) + 1) + 1) + 1) +
                                  1) +
                              1)))
                        (setF (0 + x20.toNat) 5
                          (T.int IntKind.i64
                            (IntKind.i64.wrap
                              (IntKind.i64.wrap
                                  (IntKind.i64.wrap (IntKind.i64.wrap (IntKind.i64.wrap (x4 + 1) + 1) + 1) + 1) +
                                1)))
                          (setF (0 + x20.toNat) 4
                            (T.int IntKind.i64
                              (IntKind.i64.wrap
                                (IntKind.i64.wrap (IntKind.i64.wrap (IntKind.i64.wrap (x4 + 1) + 1) + 1) + 1)))
                            (setF (0 + x20.toNat) 3
                              (T.int IntKind.i64
                                (IntKind.i64.wrap (IntKind.i64.wrap (IntKind.i64.wrap (x4 + 1) + 1) + 1)))
                              (setF (0 + x20.toNat) 2
                                (T.int IntKind.i64 (IntKind.i64.wrap (IntKind.i64.wrap (x4 + 1) + 1)))
                                (setF (0 + x20.toNat) 1 (T.int IntKind.i64 (IntKind.i64.wrap (x4 + 1)))
                                  (setF (0 + x20.toNat) 0 (T.int IntKind.i64 x4) fx2)))))))))))
              (0 + x20.toNat) (11 + 0)).ln
          ((T.arr 13 nx2
                  (setF (0 + x20.toNat) 10 (T.int IntKind.i64 (IntKind.i64.wrap (f_ctLI r1 + 1)))
                    (setF (0 + x20.toNat) 9 (T.int IntKind.i64 (f_ctLI r1))
                      (setF (0 + x20.toNat) (8 + 0) (T.arr 1 (f_mkLI r1).length (atL rowI (f_mkLI r1)))
                        (setF (0 + x20.toNat) (8 + 0)
                          (T.lent 1
                            (setF (0 + x20.toNat) 7
                                (T.int IntKind.i64
                                  (IntKind.i64.wrap
                                    (IntKind.i64.wrap
                                        (IntKind.i64.wrap
                                            (IntKind.i64.wrap
                                                (IntKind.i64.wrap
                                                    (IntKind.i64.wrap (IntKind.i64.wrap (x4 + 1) + 1) + 1) +
                                                  1) +
                                              1) +
                                          1) +
                                      1)))
                                (setF (0 + x20.toNat) 6
                                  (T.int IntKind.i64
                                    (IntKind.i64.wrap
                                      (IntKind.i64.wrap
                                          (IntKind.i64.wrap
                                              (IntKind.i64.wrap (IntKind.i64.wrap (IntKind.i64.wrap (x4 + 1) + 1) + 1) +
                                                1) +
                                            1) +
                                        1)))
                                  (setF (0 + x20.toNat) 5
                                    (T.int IntKind.i64
                                      (IntKind.i64.wrap
                                        (IntKind.i64.wrap
                                            (IntKind.i64.wrap (IntKind.i64.wrap (IntKind.i64.wrap (x4 + 1) + 1) + 1) +
                                              1) +
                                          1)))
                                    (setF (0 + x20.toNat) 4
                                      (T.int IntKind.i64
                                        (IntKind.i64.wrap
                                          (IntKind.i64.wrap (IntKind.i64.wrap (IntKind.i64.wrap (x4 + 1) + 1) + 1) +
                                            1)))
                                      (setF (0 + x20.toNat) 3
                                        (T.int IntKind.i64
                                          (IntKind.i64.wrap (IntKind.i64.wrap (IntKind.i64.wrap (x4 + 1) + 1) + 1)))
                                        (setF (0 + x20.toNat) 2
                                          (T.int IntKind.i64 (IntKind.i64.wrap (IntKind.i64.wrap (x4 + 1) + 1)))
                                          (setF (0 + x20.toNat) 1 (T.int IntKind.i64 (IntKind.i64.wrap (x4 + 1)))
                                            (setF (0 + x20.toNat) 0 (T.int IntKind.i64 x4) fx2)))))))
                                (0 + x20.toNat) (8 + 0)).ln)
                          (setF (0 + x20.toNat) 7
                            (T.int IntKind.i64
                              (IntKind.i64.wrap
                                (IntKind.i64.wrap
                                    (IntKind.i64.wrap
                                        (IntKind.i64.wrap
                                            (IntKind.i64.wrap (IntKind.i64.wrap (IntKind.i64.wrap (x4 + 1) + 1) + 1) +
                                              1) +
                                          1) +
                                      1) +
                                  1)))
                            (setF (0 + x20.toNat) 6
                              (T.int IntKind.i64
                                (IntKind.i64.wrap
                                  (IntKind.i64.wrap
                                      (IntKind.i64.wrap
                                          (IntKind.i64.wrap (IntKind.i64.wrap (IntKind.i64.wrap (x4 + 1) + 1) + 1) +
                                            1) +
                                        1) +
                                    1)))
                              (setF (0 + x20.toNat) 5
                                (T.int IntKind.i64
                                  (IntKind.i64.wrap
                                    (IntKind.i64.wrap
                                        (IntKind.i64.wrap (IntKind.i64.wrap (IntKind.i64.wrap (x4 + 1) + 1) + 1) + 1) +
                                      1)))
                                (setF (0 + x20.toNat) 4
                                  (T.int IntKind.i64
                                    (IntKind.i64.wrap
                                      (IntKind.i64.wrap (IntKind.i64.wrap (IntKind.i64.wrap (x4 + 1) + 1) + 1) + 1)))
                                  (setF (0 + x20.toNat) 3
                                    (T.int IntKind.i64
                                      (IntKind.i64.wrap (IntKind.i64.wrap (IntKind.i64.wrap (x4 + 1) + 1) + 1)))
                                    (setF (0 + x20.toNat) 2
                                      (T.int IntKind.i64 (IntKind.i64.wrap (IntKind.i64.wrap (x4 + 1) + 1)))
                                      (setF (0 + x20.toNat) 1 (T.int IntKind.i64 (IntKind.i64.wrap (x4 + 1)))
                                        (setF (0 + x20.toNat) 0 (T.int IntKind.i64 x4) fx2))))))))))))).get
              [0 + x20.toNat, 11 + 0]).fn)]),
  (0, false, [C.tr false (T.int IntKind.i64 (IntKind.i64.wrap (IntKind.i64.wrap (f_ctLI r1 + 1) + 1)))])] fun (r2 : List Th × Int) =>
  gd ((setF (0 + x20.toNat) 10 (T.int IntKind.i64 (IntKind.i64.wrap (f_ctLI r1 + 1)))
          (setF (0 + x20.toNat) 9 (T.int IntKind.i64 (f_ctLI r1))
            (setF (0 + x20.toNat) (8 + 0) (T.arr 1 (f_mkLI r1).length (atL rowI (f_mkLI r1)))
              (setF (0 + x20.toNat) (8 + 0)
                (T.lent 1
                  (setF (0 + x20.toNat) 7
                      (T.int IntKind.i64
                        (IntKind.i64.wrap
                          (IntKind.i64.wrap
                              (IntKind.i64.wrap
                                  (IntKind.i64.wrap
                                      (IntKind.i64.wrap (IntKind.i64.wrap (IntKind.i64.wrap (x4 + 1) + 1) + 1) + 1) +
                                    1) +
                                1) +
                            1)))
                      (setF (0 + x20.toNat) 6
                        (T.int IntKind.i64
                          (IntKind.i64.wrap
                            (IntKind.i64.wrap
                                (IntKind.i64.wrap
                                    (IntKind.i64.wrap (IntKind.i64.wrap (IntKind.i64.wrap (x4 + 1) + 1) + 1) + 1) +
                                  1) +
                              1)))
                        (setF (0 + x20.toNat) 5
                          (T.int IntKind.i64
                            (IntKind.i64.wrap
                              (IntKind.i64.wrap
                                  (IntKind.i64.wrap (IntKind.i64.wrap (IntKind.i64.wrap (x4 + 1) + 1) + 1) + 1) +
                                1)))
                          (setF (0 + x20.toNat) 4
                            (T.int IntKind.i64
                              (IntKind.i64.wrap
                                (IntKind.i64.wrap (IntKind.i64.wrap (IntKind.i64.wrap (x4 + 1) + 1) + 1) + 1)))
                            (setF (0 + x20.toNat) 3
                              (T.int IntKind.i64
                                (IntKind.i64.wrap (IntKind.i64.wrap (IntKind.i64.wrap (x4 + 1) + 1) + 1)))
                              (setF (0 + x20.toNat) 2
                                (T.int IntKind.i64 (IntKind.i64.wrap (IntKind.i64.wrap (x4 + 1) + 1)))
                                (setF (0 + x20.toNat) 1 (T.int IntKind.i64 (IntKind.i64.wrap (x4 + 1)))
                                  (setF (0 + x20.toNat) 0 (T.int IntKind.i64 x4) fx2)))))))
                      (0 + x20.toNat) (8 + 0)).ln)
                (setF (0 + x20.toNat) 7
                  (T.int IntKind.i64
                    (IntKind.i64.wrap
                      (IntKind.i64.wrap
                          (IntKind.i64.wrap
                              (IntKind.i64.wrap
                                  (IntKind.i64.wrap (IntKind.i64.wrap (IntKind.i64.wrap (x4 + 1) + 1) + 1) + 1) +
                                1) +
                            1) +
                        1)))
                  (setF (0 + x20.toNat) 6
                    (T.int IntKind.i64
                      (IntKind.i64.wrap
                        (IntKind.i64.wrap
                            (IntKind.i64.wrap
                                (IntKind.i64.wrap (IntKind.i64.wrap (IntKind.i64.wrap (x4 + 1) + 1) + 1) + 1) +
                              1) +
                          1)))
                    (setF (0 + x20.toNat) 5
                      (T.int IntKind.i64
                        (IntKind.i64.wrap
                          (IntKind.i64.wrap
                              (IntKind.i64.wrap (IntKind.i64.wrap (IntKind.i64.wrap (x4 + 1) + 1) + 1) + 1) +
                            1)))
                      (setF (0 + x20.toNat) 4
                        (T.int IntKind.i64
                          (IntKind.i64.wrap
                            (IntKind.i64.wrap (IntKind.i64.wrap (IntKind.i64.wrap (x4 + 1) + 1) + 1) + 1)))
                        (setF (0 + x20.toNat) 3
                          (T.int IntKind.i64 (IntKind.i64.wrap (IntKind.i64.wrap (IntKind.i64.wrap (x4 + 1) + 1) + 1)))
                          (setF (0 + x20.toNat) 2 (T.int IntKind.i64 (IntKind.i64.wrap (IntKind.i64.wrap (x4 + 1) + 1)))
                            (setF (0 + x20.toNat) 1 (T.int IntKind.i64 (IntKind.i64.wrap (x4 + 1)))
                              (setF (0 + x20.toNat) 0 (T.int IntKind.i64 x4) fx2)))))))))))
          (0 + x20.toNat) (11 + 0)).ln.beq
    (f_mkThS r2).length &&
  ((0 + x20.toNat).blt nx2 && true && true)) <|
  gd (decide (0 ≤ x20) && (x20.toNat.blt l.length && true)) <|
  gd ((0 + x20.toNat).blt nx2 && true &&
  ((setF (0 + x20.toNat) (11 + 0) (T.arr 3 (f_mkThS r2).length (atL Th.cs (f_mkThS r2)))
        (setF (0 + x20.toNat) (11 + 0)
          (T.lent 3
            (setF (0 + x20.toNat) 10 (T.int IntKind.i64 (IntKind.i64.wrap (f_ctLI r1 + 1)))
                (setF (0 + x20.toNat) 9 (T.int IntKind.i64 (f_ctLI r1))
                  (setF (0 + x20.toNat) (8 + 0) (T.arr 1 (f_mkLI r1).length (atL rowI (f_mkLI r1)))
                    (setF (0 + x20.toNat) (8 + 0)
                      (T.lent 1
                        (setF (0 + x20.toNat) 7
                            (T.int IntKind.i64
                              (IntKind.i64.wrap
                                (IntKind.i64.wrap
                                    (IntKind.i64.wrap
                                        (IntKind.i64.wrap
                                            (IntKind.i64.wrap (IntKind.i64.wrap (IntKind.i64.wrap (x4 + 1) + 1) + 1) +
                                              1) +
                                          1) +
                                      1) +
                                  1)))
                            (setF (0 + x20.toNat) 6
                              (T.int IntKind.i64
                                (IntKind.i64.wrap
                                  (IntKind.i64.wrap
                                      (IntKind.i64.wrap
                                          (IntKind.i64.wrap (IntKind.i64.wrap (IntKind.i64.wrap (x4 + 1) + 1) + 1) +
                                            1) +
                                        1) +
                                    1)))
                              (setF (0 + x20.toNat) 5
                                (T.int IntKind.i64
                                  (IntKind.i64.wrap
                                    (IntKind.i64.wrap
                                        (IntKind.i64.wrap (IntKind.i64.wrap (IntKind.i64.wrap (x4 + 1) + 1) + 1) + 1) +
                                      1)))
                                (setF (0 + x20.toNat) 4
                                  (T.int IntKind.i64
                                    (IntKind.i64.wrap
                                      (IntKind.i64.wrap (IntKind.i64.wrap (IntKind.i64.wrap (x4 + 1) + 1) + 1) + 1)))
                                  (setF (0 + x20.toNat) 3
                                    (T.int IntKind.i64
                                      (IntKind.i64.wrap (IntKind.i64.wrap (IntKind.i64.wrap (x4 + 1) + 1) + 1)))
                                    (setF (0 + x20.toNat) 2
                                      (T.int IntKind.i64 (IntKind.i64.wrap (IntKind.i64.wrap (x4 + 1) + 1)))
                                      (setF (0 + x20.toNat) 1 (T.int IntKind.i64 (IntKind.i64.wrap (x4 + 1)))
                                        (setF (0 + x20.toNat) 0 (T.int IntKind.i64 x4) fx2)))))))
                            (0 + x20.toNat) (8 + 0)).ln)
                      (setF (0 + x20.toNat) 7
                        (T.int IntKind.i64
                          (IntKind.i64.wrap
                            (IntKind.i64.wrap
                                (IntKind.i64.wrap
                                    (IntKind.i64.wrap
                                        (IntKind.i64.wrap (IntKind.i64.wrap (IntKind.i64.wrap (x4 + 1) + 1) + 1) + 1) +
                                      1) +
                                  1) +
                              1)))
                        (setF (0 + x20.toNat) 6
                          (T.int IntKind.i64
                            (IntKind.i64.wrap
                              (IntKind.i64.wrap
                                  (IntKind.i64.wrap
                                      (IntKind.i64.wrap (IntKind.i64.wrap (IntKind.i64.wrap (x4 + 1) + 1) + 1) + 1) +
                                    1) +
                                1)))
                          (setF (0 + x20.toNat) 5
                            (T.int IntKind.i64
                              (IntKind.i64.wrap
                                (IntKind.i64.wrap
                                    (IntKind.i64.wrap (IntKind.i64.wrap (IntKind.i64.wrap (x4 + 1) + 1) + 1) + 1) +
                                  1)))
                            (setF (0 + x20.toNat) 4
                              (T.int IntKind.i64
                                (IntKind.i64.wrap
                                  (IntKind.i64.wrap (IntKind.i64.wrap (IntKind.i64.wrap (x4 + 1) + 1) + 1) + 1)))
                              (setF (0 + x20.toNat) 3
                                (T.int IntKind.i64
                                  (IntKind.i64.wrap (IntKind.i64.wrap (IntKind.i64.wrap (x4 + 1) + 1) + 1)))
                                (setF (0 + x20.toNat) 2
                                  (T.int IntKind.i64 (IntKind.i64.wrap (IntKind.i64.wrap (x4 + 1) + 1)))
                                  (setF (0 + x20.toNat) 1 (T.int IntKind.i64 (IntKind.i64.wrap (x4 + 1)))
                                    (setF (0 + x20.toNat) 0 (T.int IntKind.i64 x4) fx2)))))))))))
                (0 + x20.toNat) (11 + 0)).ln)
          (setF (0 + x20.toNat) 10 (T.int IntKind.i64 (IntKind.i64.wrap (f_ctLI r1 + 1)))
            (setF (0 + x20.toNat) 9 (T.int IntKind.i64 (f_ctLI r1))
              (setF (0 + x20.toNat) (8 + 0) (T.arr 1 (f_mkLI r1).length (atL rowI (f_mkLI r1)))
                (setF (0 + x20.toNat) (8 + 0)
                  (T.lent 1
                    (setF (0 + x20.toNat) 7
                        (T.int IntKind.i64
                          (IntKind.i64.wrap
                            (IntKind.i64.wrap
                                (IntKind.i64.wrap
                                    (IntKind.i64.wrap
                                        (IntKind.i64.wrap (IntKind.i64.wrap (IntKind.i64.wrap (x4 + 1) + 1) + 1) + 1) +
                                      1) +
                                  1) +
                              1)))
                        (setF (0 + x20.toNat) 6
                          (T.int IntKind.i64
                            (IntKind.i64.wrap
                              (IntKind.i64.wrap
                                  (IntKind.i64.wrap
                                      (IntKind.i64.wrap (IntKind.i64.wrap (IntKind.i64.wrap (x4 + 1) + 1) + 1) + 1) +
                                    1) +
                                1)))
                          (setF (0 + x20.toNat) 5
                            (T.int IntKind.i64
                              (IntKind.i64.wrap
                                (IntKind.i64.wrap
                                    (IntKind.i64.wrap (IntKind.i64.wrap (IntKind.i64.wrap (x4 + 1) + 1) + 1) + 1) +
                                  1)))
                            (setF (0 + x20.toNat) 4
                              (T.int IntKind.i64
                                (IntKind.i64.wrap
                                  (IntKind.i64.wrap (IntKind.i64.wrap (IntKind.i64.wrap (x4 + 1) + 1) + 1) + 1)))
                              (setF (0 + x20.toNat) 3
                                (T.int IntKind.i64
                                  (IntKind.i64.wrap (IntKind.i64.wrap (IntKind.i64.wrap (x4 + 1) + 1) + 1)))
                                (setF (0 + x20.toNat) 2
                                  (T.int IntKind.i64 (IntKind.i64.wrap (IntKind.i64.wrap (x4 + 1) + 1)))
                                  (setF (0 + x20.toNat) 1 (T.int IntKind.i64 (IntKind.i64.wrap (x4 + 1)))
                                    (setF (0 + x20.toNat) 0 (T.int IntKind.i64 x4) fx2)))))))
                        (0 + x20.toNat) (8 + 0)).ln)
                  (setF (0 + x20.toNat) 7
                    (T.int IntKind.i64
                      (IntKind.i64.wrap
                        (IntKind.i64.wrap
                            (IntKind.i64.wrap
                                (IntKind.i64.wrap
                                    (IntKind.i64.wrap (IntKind.i64.wrap (IntKind.i64.wrap (x4 + 1) + 1) + 1) + 1) +
                                  1) +
                              1) +
                          1)))
                    (setF (0 + x20.toNat) 6
                      (T.int IntKind.i64
                        (IntKind.i64.wrap
                          (IntKind.i64.wrap
                              (IntKind.i64.wrap
                                  (IntKind.i64.wrap (IntKind.i64.wrap (IntKind.i64.wrap (x4 + 1) + 1) + 1) + 1) +
                                1) +
                            1)))
                      (setF (0 + x20.toNat) 5
                        (T.int IntKind.i64
                          (IntKind.i64.wrap
                            (IntKind.i64.wrap
                                (IntKind.i64.wrap (IntKind.i64.wrap (IntKind.i64.wrap (x4 + 1) + 1) + 1) + 1) +
                              1)))
                        (setF (0 + x20.toNat) 4
                          (T.int IntKind.i64
                            (IntKind.i64.wrap
                              (IntKind.i64.wrap (IntKind.i64.wrap (IntKind.i64.wrap (x4 + 1) + 1) + 1) + 1)))
                          (setF (0 + x20.toNat) 3
                            (T.int IntKind.i64
                              (IntKind.i64.wrap (IntKind.i64.wrap (IntKind.i64.wrap (x4 + 1) + 1) + 1)))
                            (setF (0 + x20.toNat) 2
                              (T.int IntKind.i64 (IntKind.i64.wrap (IntKind.i64.wrap (x4 + 1) + 1)))
                              (setF (0 + x20.toNat) 1 (T.int IntKind.i64 (IntKind.i64.wrap (x4 + 1)))
                                (setF (0 + x20.toNat) 0 (T.int IntKind.i64 x4) fx2)))))))))))))
        (0 + x20.toNat) (12 + 0)).isArr &&
    (setF (0 + x20.toNat) (11 + 0) (T.arr 3 (f_mkThS r2).length (atL Th.cs (f_mkThS r2)))
            (setF (0 + x20.toNat) (11 + 0)
              (T.lent 3
                (setF (0 + x20.toNat) 10 (T.int IntKind.i64 (IntKind.i64.wrap (f_ctLI r1 + 1)))
                    (setF (0 + x20.toNat) 9 (T.int IntKind.i64 (f_ctLI r1))
                      (setF (0 + x20.toNat) (8 + 0) (T.arr 1 (f_mkLI r1).length (atL rowI (f_mkLI r1)))
                        (setF (0 + x20.toNat) (8 + 0)
                          (T.lent 1
                            (setF (0 + x20.toNat) 7
                                (T.int IntKind.i64
                                  (IntKind.i64.wrap
                                    (IntKind.i64.wrap
                                        (IntKind.i64.wrap
                                            (IntKind.i64.wrap
                                                (IntKind.i64.wrap
                                                    (IntKind.i64.wrap (IntKind.i64.wrap (x4 + 1) + 1) + 1) +
                                                  1) +
                                              1) +
                                          1) +
                                      1)))
                                (setF (0 + x20.toNat) 6
                                  (T.int IntKind.i64
                                    (IntKind.i64.wrap
                                      (IntKind.i64.wrap
                                          (IntKind.i64.wrap
                                              (IntKind.i64.wrap (IntKind.i64.wrap (IntKind.i64.wrap (x4 + 1) + 1) + 1) +
                                                1) +
                                            1) +
                                        1)))
                                  (setF (0 + x20.toNat) 5
                                    (T.int IntKind.i64
                                      (IntKind.i64.wrap
                                        (IntKind.i64.wrap
                                            (IntKind.i64.wrap (IntKind.i64.wrap (IntKind.i64.wrap (x4 + 1) + 1) + 1) +
                                              1) +
                                          1)))
                                    (setF (0 + x20.toNat) 4
                                      (T.int IntKind.i64
                                        (IntKind.i64.wrap
                                          (IntKind.i64.wrap (IntKind.i64.wrap (IntKind.i64.wrap (x4 + 1) + 1) + 1) +
                                            1)))
                                      (setF (0 + x20.toNat) 3
                                        (T.int IntKind.i64
                                          (IntKind.i64.wrap (IntKind.i64.wrap (IntKind.i64.wrap (x4 + 1) + 1) + 1)))
                                        (setF (0 + x20.toNat) 2
                                          (T.int IntKind.i64 (IntKind.i64.wrap (IntKind.i64.wrap (x4 + 1) + 1)))
                                          (setF (0 + x20.toNat) 1 (T.int IntKind.i64 (IntKind.i64.wrap (x4 + 1)))
                                            (setF (0 + x20.toNat) 0 (T.int IntKind.i64 x4) fx2)))))))
                                (0 + x20.toNat) (8 + 0)).ln)
                          (setF (0 + x20.toNat) 7
                            (T.int IntKind.i64
                              (IntKind.i64.wrap
                                (IntKind.i64.wrap
                                    (IntKind.i64.wrap
                                        (IntKind.i64.wrap
                                            (IntKind.i64.wrap (IntKind.i64.wrap (IntKind.i64.wrap (x4 + 1) + 1) + 1) +
                                              1) +
                                          1) +
                                      1) +
                                  1)))
                            (setF (0 + x20.toNat) 6
                              (T.int IntKind.i64
                                (IntKind.i64.wrap
                                  (IntKind.i64.wrap
                                      (IntKind.i64.wrap
                                          (IntKind.i64.wrap (IntKind.i64.wrap (IntKind.i64.wrap (x4 + 1) + 1) + 1) +
                                            1) +
                                        1) +
                                    1)))
                              (setF (0 + x20.toNat) 5
                                (T.int IntKind.i64
                                  (IntKind.i64.wrap
                                    (IntKind.i64.wrap
                                        (IntKind.i64.wrap (IntKind.i64.wrap (IntKind.i64.wrap (x4 + 1) + 1) + 1) + 1) +
                                      1)))
                                (setF (0 + x20.toNat) 4
                                  (T.int IntKind.i64
                                    (IntKind.i64.wrap
                                      (IntKind.i64.wrap (IntKind.i64.wrap (IntKind.i64.wrap (x4 + 1) + 1) + 1) + 1)))
                                  (setF (0 + x20.toNat) 3
                                    (T.int IntKind.i64
                                      (IntKind.i64.wrap (IntKind.i64.wrap (IntKind.i64.wrap (x4 + 1) + 1) + 1)))
                                    (setF (0 + x20.toNat) 2
                                      (T.int IntKind.i64 (IntKind.i64.wrap (IntKind.i64.wrap (x4 + 1) + 1)))
                                      (setF (0 + x20.toNat) 1 (T.int IntKind.i64 (IntKind.i64.wrap (x4 + 1)))
                                        (setF (0 + x20.toNat) 0 (T.int IntKind.i64 x4) fx2)))))))))))
                    (0 + x20.toNat) (11 + 0)).ln)
              (setF (0 + x20.toNat) 10 (T.int IntKind.i64 (IntKind.i64.wrap (f_ctLI r1 + 1)))
                (setF (0 + x20.toNat) 9 (T.int IntKind.i64 (f_ctLI r1))
                  (setF (0 + x20.toNat) (8 + 0) (T.arr 1 (f_mkLI r1).length (atL rowI (f_mkLI r1)))
                    (setF (0 + x20.toNat) (8 + 0)
                      (T.lent 1
                        (setF (0 + x20.toNat) 7
                            (T.int IntKind.i64
                              (IntKind.i64.wrap
                                (IntKind.i64.wrap
                                    (IntKind.i64.wrap
                                        (IntKind.i64.wrap
                                            (IntKind.i64.wrap (IntKind.i64.wrap (IntKind.i64.wrap (x4 + 1) + 1) + 1) +
                                              1) +
                                          1) +
                                      1) +
                                  1)))
                            (setF (0 + x20.toNat) 6
                              (T.int IntKind.i64
                                (IntKind.i64.wrap
                                  (IntKind.i64.wrap
                                      (IntKind.i64.wrap
                                          (IntKind.i64.wrap (IntKind.i64.wrap (IntKind.i64.wrap (x4 + 1) + 1) + 1) +
                                            1) +
                                        1) +
                                    1)))
                              (setF (0 + x20.toNat) 5
                                (T.int IntKind.i64
                                  (IntKind.i64.wrap
                                    (IntKind.i64.wrap
                                        (IntKind.i64.wrap (IntKind.i64.wrap (IntKind.i64.wrap (x4 + 1) + 1) + 1) + 1) +
                                      1)))
                                (setF (0 + x20.toNat) 4
                                  (T.int IntKind.i64
                                    (IntKind.i64.wrap
                                      (IntKind.i64.wrap (IntKind.i64.wrap (IntKind.i64.wrap (x4 + 1) + 1) + 1) + 1)))
                                  (setF (0 + x20.toNat) 3
                                    (T.int IntKind.i64
                                      (IntKind.i64.wrap (IntKind.i64.wrap (IntKind.i64.wrap (x4 + 1) + 1) + 1)))
                                    (setF (0 + x20.toNat) 2
                                      (T.int IntKind.i64 (IntKind.i64.wrap (IntKind.i64.wrap (x4 + 1) + 1)))
                                      (setF (0 + x20.toNat) 1 (T.int IntKind.i64 (IntKind.i64.wrap (x4 + 1)))
                                        (setF (0 + x20.toNat) 0 (T.int IntKind.i64 x4) fx2)))))))
                            (0 + x20.toNat) (8 + 0)).ln)
                      (setF (0 + x20.toNat) 7
                        (T.int IntKind.i64
                          (IntKind.i64.wrap
                            (IntKind.i64.wrap
                                (IntKind.i64.wrap
                                    (IntKind.i64.wrap
                                        (IntKind.i64.wrap (IntKind.i64.wrap (IntKind.i64.wrap (x4 + 1) + 1) + 1) + 1) +
                                      1) +
                                  1) +
                              1)))
                        (setF (0 + x20.toNat) 6
                          (T.int IntKind.i64
                            (IntKind.i64.wrap
                              (IntKind.i64.wrap
                                  (IntKind.i64.wrap
                                      (IntKind.i64.wrap (IntKind.i64.wrap (IntKind.i64.wrap (x4 + 1) + 1) + 1) + 1) +
                                    1) +
                                1)))
                          (setF (0 + x20.toNat) 5
                            (T.int IntKind.i64
                              (IntKind.i64.wrap
                                (IntKind.i64.wrap
                                    (IntKind.i64.wrap (IntKind.i64.wrap (IntKind.i64.wrap (x4 + 1) + 1) + 1) + 1) +
                                  1)))
                            (setF (0 + x20.toNat) 4
                              (T.int IntKind.i64
                                (IntKind.i64.wrap
                                  (IntKind.i64.wrap (IntKind.i64.wrap (IntKind.i64.wrap (x4 + 1) + 1) + 1) + 1)))
                              (setF (0 + x20.toNat) 3
                                (T.int IntKind.i64
                                  (IntKind.i64.wrap (IntKind.i64.wrap (IntKind.i64.wrap (x4 + 1) + 1) + 1)))
                                (setF (0 + x20.toNat) 2
                                  (T.int IntKind.i64 (IntKind.i64.wrap (IntKind.i64.wrap (x4 + 1) + 1)))
                                  (setF (0 + x20.toNat) 1 (T.int IntKind.i64 (IntKind.i64.wrap (x4 + 1)))
                                    (setF (0 + x20.toNat) 0 (T.int IntKind.i64 x4) fx2)))))))))))))
            (0 + x20.toNat) (12 + 0)).wd.beq
      1)) <|
  gd ((0 + x20.toNat).blt nx2 && true && true &&
  ((T.arr 13 nx2
          (setF (0 + x20.toNat) (11 + 0) (T.arr 3 (f_mkThS r2).length (atL Th.cs (f_mkThS r2)))
            (setF (0 + x20.toNat) (11 + 0)
              (T.lent 3
                (setF (0 + x20.toNat) 10 (T.int IntKind.i64 (IntKind.i64.wrap (f_ctLI r1 + 1)))
                    (setF (0 + x20.toNat) 9 (T.int IntKind.i64 (f_ctLI r1))
                      (setF (0 + x20.toNat) (8 + 0) (T.arr 1 (f_mkLI r1).length (atL rowI (f_mkLI r1)))
                        (setF (0 + x20.toNat) (8 + 0)
                          (T.lent 1
                            (setF (0 + x20.toNat) 7
                                (T.int IntKind.i64
                                  (IntKind.i64.wrap
                                    (IntKind.i64.wrap
                                        (IntKind.i64.wrap
                                            (IntKind.i64.wrap
                                                (IntKind.i64.wrap
                                                    (IntKind.i64.wrap (IntKind.i64.wrap (x4 + 1) + 1) + 1) +
                                                  1) +
                                              1) +
                                          1) +
                                      1)))
                                (setF (0 + x20.toNat) 6
                                  (T.int IntKind.i64
                                    (IntKind.i64.wrap
                                      (IntKind.i64.wrap
                                          (IntKind.i64.wrap
                                              (IntKind.i64.wrap (IntKind.i64.wrap (IntKind.i64.wrap (x4 + 1) + 1) + 1) +
                                                1) +
                                            1) +
                                        1)))
                                  (setF (0 + x20.toNat) 5
                                    (T.int IntKind.i64
                                      (IntKind.i64.wrap
                                        (IntKind.i64.wrap
                                            (IntKind.i64.wrap (IntKind.i64.wrap (IntKind.i64.wrap (x4 + 1) + 1) + 1) +
                                              1) +
                                          1)))
                                    (setF (0 + x20.toNat) 4
                                      (T.int IntKind.i64
                                        (IntKind.i64.wrap
                                          (IntKind.i64.wrap (IntKind.i64.wrap (IntKind.i64.wrap (x4 + 1) + 1) + 1) +
                                            1)))
                                      (setF (0 + x20.toNat) 3
                                        (T.int IntKind.i64
                                          (IntKind.i64.wrap (IntKind.i64.wrap (IntKind.i64.wrap (x4 + 1) + 1) + 1)))
                                        (setF (0 + x20.toNat) 2
                                          (T.int IntKind.i64 (IntKind.i64.wrap (IntKind.i64.wrap (x4 + 1) + 1)))
                                          (setF (0 + x20.toNat) 1 (T.int IntKind.i64 (IntKind.i64.wrap (x4 + 1)))
                                            (setF (0 + x20.toNat) 0 (T.int IntKind.i64 x4) fx2)))))))
                                (0 + x20.toNat) (8 + 0)).ln)
                          (setF (0 + x20.toNat) 7
                            (T.int IntKind.i64
                              (IntKind.i64.wrap
                                (IntKind.i64.wrap
                                    (IntKind.i64.wrap
                                        (IntKind.i64.wrap
                                            (IntKind.i64.wrap (IntKind.i64.wrap (IntKind.i64.wrap (x4 + 1) + 1) + 1) +
                                              1) +
                                          1) +
                                      1) +
                                  1)))
                            (setF (0 + x20.toNat) 6
                              (T.int IntKind.i64
                                (IntKind.i64.wrap
                                  (IntKind.i64.wrap
                                      (IntKind.i64.wrap
                                          (IntKind.i64.wrap (IntKind.i64.wrap (IntKind.i64.wrap (x4 + 1) + 1) + 1) +
                                            1) +
                                        1) +
                                    1)))
                              (setF (0 + x20.toNat) 5
                                (T.int IntKind.i64
                                  (IntKind.i64.wrap
                                    (IntKind.i64.wrap
                                        (IntKind.i64.wrap (IntKind.i64.wrap (IntKind.i64.wrap (x4 + 1) + 1) + 1) + 1) +
                                      1)))
                                (setF (0 + x20.toNat) 4
                                  (T.int IntKind.i64
                                    (IntKind.i64.wrap
                                      (IntKind.i64.wrap (IntKind.i64.wrap (IntKind.i64.wrap (x4 + 1) + 1) + 1) + 1)))
                                  (setF (0 + x20.toNat) 3
                                    (T.int IntKind.i64
                                      (IntKind.i64.wrap (IntKind.i64.wrap (IntKind.i64.wrap (x4 + 1) + 1) + 1)))
                                    (setF (0 + x20.toNat) 2
                                      (T.int IntKind.i64 (IntKind.i64.wrap (IntKind.i64.wrap (x4 + 1) + 1)))
                                      (setF (0 + x20.toNat) 1 (T.int IntKind.i64 (IntKind.i64.wrap (x4 + 1)))
                                        (setF (0 + x20.toNat) 0 (T.int IntKind.i64 x4) fx2)))))))))))
                    (0 + x20.toNat) (11 + 0)).ln)
              (setF (0 + x20.toNat) 10 (T.int IntKind.i64 (IntKind.i64.wrap (f_ctLI r1 + 1)))
                (setF (0 + x20.toNat) 9 (T.int IntKind.i64 (f_ctLI r1))
                  (setF (0 + x20.toNat) (8 + 0) (T.arr 1 (f_mkLI r1).length (atL rowI (f_mkLI r1)))
                    (setF (0 + x20.toNat) (8 + 0)
                      (T.lent 1
                        (setF (0 + x20.toNat) 7
                            (T.int IntKind.i64
                              (IntKind.i64.wrap
                                (IntKind.i64.wrap
                                    (IntKind.i64.wrap
                                        (IntKind.i64.wrap
                                            (IntKind.i64.wrap (IntKind.i64.wrap (IntKind.i64.wrap (x4 + 1) + 1) + 1) +
                                              1) +
                                          1) +
                                      1) +
                                  1)))
                            (setF (0 + x20.toNat) 6
                              (T.int IntKind.i64
                                (IntKind.i64.wrap
                                  (IntKind.i64.wrap
                                      (IntKind.i64.wrap
                                          (IntKind.i64.wrap (IntKind.i64.wrap (IntKind.i64.wrap (x4 + 1) + 1) + 1) +
                                            1) +
                                        1) +
                                    1)))
                              (setF (0 + x20.toNat) 5
                                (T.int IntKind.i64
                                  (IntKind.i64.wrap
                                    (IntKind.i64.wrap
                                        (IntKind.i64.wrap (IntKind.i64.wrap (IntKind.i64.wrap (x4 + 1) + 1) + 1) + 1) +
                                      1)))
                                (setF (0 + x20.toNat) 4
                                  (T.int IntKind.i64
                                    (IntKind.i64.wrap
                                      (IntKind.i64.wrap (IntKind.i64.wrap (IntKind.i64.wrap (x4 + 1) + 1) + 1) + 1)))
                                  (setF (0 + x20.toNat) 3
                                    (T.int IntKind.i64
                                      (IntKind.i64.wrap (IntKind.i64.wrap (IntKind.i64.wrap (x4 + 1) + 1) + 1)))
                                    (setF (0 + x20.toNat) 2
                                      (T.int IntKind.i64 (IntKind.i64.wrap (IntKind.i64.wrap (x4 + 1) + 1)))
                                      (setF (0 + x20.toNat) 1 (T.int IntKind.i64 (IntKind.i64.wrap (x4 + 1)))
                                        (setF (0 + x20.toNat) 0 (T.int IntKind.i64 x4) fx2)))))))
                            (0 + x20.toNat) (8 + 0)).ln)
                      (setF (0 + x20.toNat) 7
                        (T.int IntKind.i64
                          (IntKind.i64.wrap
                            (IntKind.i64.wrap
                                (IntKind.i64.wrap
                                    (IntKind.i64.wrap
                                        (IntKind.i64.wrap (IntKind.i64.wrap (IntKind.i64.wrap (x4 + 1) + 1) + 1) + 1) +
                                      1) +
                                  1) +
                              1)))
                        (setF (0 + x20.toNat) 6
                          (T.int IntKind.i64
                            (IntKind.i64.wrap
                              (IntKind.i64.wrap
                                  (IntKind.i64.wrap
                                      (IntKind.i64.wrap (IntKind.i64.wrap (IntKind.i64.wrap (x4 + 1) + 1) + 1) + 1) +
                                    1) +
                                1)))
                          (setF (0 + x20.toNat) 5
                            (T.int IntKind.i64
                              (IntKind.i64.wrap
                                (IntKind.i64.wrap
                                    (IntKind.i64.wrap (IntKind.i64.wrap (IntKind.i64.wrap (x4 + 1) + 1) + 1) + 1) +
                                  1)))
                            (setF (0 + x20.toNat) 4
                              (T.int IntKind.i64
                                (IntKind.i64.wrap
                                  (IntKind.i64.wrap (IntKind.i64.wrap (IntKind.i64.wrap (x4 + 1) + 1) + 1) + 1)))
                              (setF (0 + x20.toNat) 3
                                (T.int IntKind.i64
                                  (IntKind.i64.wrap (IntKind.i64.wrap (IntKind.i64.wrap (x4 + 1) + 1) + 1)))
                                (setF (0 + x20.toNat) 2
                                  (T.int IntKind.i64 (IntKind.i64.wrap (IntKind.i64.wrap (x4 + 1) + 1)))
                                  (setF (0 + x20.toNat) 1 (T.int IntKind.i64 (IntKind.i64.wrap (x4 + 1)))
                                    (setF (0 + x20.toNat) 0 (T.int IntKind.i64 x4) fx2))))))))))))))).get
      [0 + x20.toNat, 12 + 0]).isArr) <|
  gd ((setF (0 + x20.toNat) (11 + 0) (T.arr 3 (f_mkThS r2).length (atL Th.cs (f_mkThS r2)))
          (setF (0 + x20.toNat) (11 + 0)
            (T.lent 3
              (setF (0 + x20.toNat) 10 (T.int IntKind.i64 (IntKind.i64.wrap (f_ctLI r1 + 1)))
                  (setF (0 + x20.toNat) 9 (T.int IntKind.i64 (f_ctLI r1))
                    (setF (0 + x20.toNat) (8 + 0) (T.arr 1 (f_mkLI r1).length (atL rowI (f_mkLI r1)))
                      (setF (0 + x20.toNat) (8 + 0)
                        (T.lent 1
                          (setF (0 + x20.toNat) 7
                              (T.int IntKind.i64
                                (IntKind.i64.wrap
                                  (IntKind.i64.wrap
                                      (IntKind.i64.wrap
                                          (IntKind.i64.wrap
                                              (IntKind.i64.wrap (IntKind.i64.wrap (IntKind.i64.wrap (x4 + 1) + 1) + 1) +
                                                1) +
                                            1) +
                                        1) +
                                    1)))
                              (setF (0 + x20.toNat) 6
                                (T.int IntKind.i64
                                  (IntKind.i64.wrap
                                    (IntKind.i64.wrap
                                        (IntKind.i64.wrap
                                            (IntKind.i64.wrap (IntKind.i64.wrap (IntKind.i64.wrap (x4 + 1) + 1) + 1) +
                                              1) +
                                          1) +
                                      1)))
                                (setF (0 + x20.toNat) 5
                                  (T.int IntKind.i64
                                    (IntKind.i64.wrap
                                      (IntKind.i64.wrap
                                          (IntKind.i64.wrap (IntKind.i64.wrap (IntKind.i64.wrap (x4 + 1) + 1) + 1) +
                                            1) +
                                        1)))
                                  (setF (0 + x20.toNat) 4
                                    (T.int IntKind.i64
                                      (IntKind.i64.wrap
                                        (IntKind.i64.wrap (IntKind.i64.wrap (IntKind.i64.wrap (x4 + 1) + 1) + 1) + 1)))
                                    (setF (0 + x20.toNat) 3
                                      (T.int IntKind.i64
                                        (IntKind.i64.wrap (IntKind.i64.wrap (IntKind.i64.wrap (x4 + 1) + 1) + 1)))
                                      (setF (0 + x20.toNat) 2
                                        (T.int IntKind.i64 (IntKind.i64.wrap (IntKind.i64.wrap (x4 + 1) + 1)))
                                        (setF (0 + x20.toNat) 1 (T.int IntKind.i64 (IntKind.i64.wrap (x4 + 1)))
                                          (setF (0 + x20.toNat) 0 (T.int IntKind.i64 x4) fx2)))))))
                              (0 + x20.toNat) (8 + 0)).ln)
                        (setF (0 + x20.toNat) 7
                          (T.int IntKind.i64
                            (IntKind.i64.wrap
                              (IntKind.i64.wrap
                                  (IntKind.i64.wrap
                                      (IntKind.i64.wrap
                                          (IntKind.i64.wrap (IntKind.i64.wrap (IntKind.i64.wrap (x4 + 1) + 1) + 1) +
                                            1) +
                                        1) +
                                    1) +
                                1)))
                          (setF (0 + x20.toNat) 6
                            (T.int IntKind.i64
                              (IntKind.i64.wrap
                                (IntKind.i64.wrap
                                    (IntKind.i64.wrap
                                        (IntKind.i64.wrap (IntKind.i64.wrap (IntKind.i64.wrap (x4 + 1) + 1) + 1) + 1) +
                                      1) +
                                  1)))
                            (setF (0 + x20.toNat) 5
                              (T.int IntKind.i64
                                (IntKind.i64.wrap
                                  (IntKind.i64.wrap
                                      (IntKind.i64.wrap (IntKind.i64.wrap (IntKind.i64.wrap (x4 + 1) + 1) + 1) + 1) +
                                    1)))
                              (setF (0 + x20.toNat) 4
                                (T.int IntKind.i64
                                  (IntKind.i64.wrap
                                    (IntKind.i64.wrap (IntKind.i64.wrap (IntKind.i64.wrap (x4 + 1) + 1) + 1) + 1)))
                                (setF (0 + x20.toNat) 3
                                  (T.int IntKind.i64
                                    (IntKind.i64.wrap (IntKind.i64.wrap (IntKind.i64.wrap (x4 + 1) + 1) + 1)))
                                  (setF (0 + x20.toNat) 2
                                    (T.int IntKind.i64 (IntKind.i64.wrap (IntKind.i64.wrap (x4 + 1) + 1)))
                                    (setF (0 + x20.toNat) 1 (T.int IntKind.i64 (IntKind.i64.wrap (x4 + 1)))
                                      (setF (0 + x20.toNat) 0 (T.int IntKind.i64 x4) fx2)))))))))))
                  (0 + x20.toNat) (11 + 0)).ln)
            (setF (0 + x20.toNat) 10 (T.int IntKind.i64 (IntKind.i64.wrap (f_ctLI r1 + 1)))
              (setF (0 + x20.toNat) 9 (T.int IntKind.i64 (f_ctLI r1))
                (setF (0 + x20.toNat) (8 + 0) (T.arr 1 (f_mkLI r1).length (atL rowI (f_mkLI r1)))
                  (setF (0 + x20.toNat) (8 + 0)
                    (T.lent 1
                      (setF (0 + x20.toNat) 7
                          (T.int IntKind.i64
                            (IntKind.i64.wrap
                              (IntKind.i64.wrap
                                  (IntKind.i64.wrap
                                      (IntKind.i64.wrap
                                          (IntKind.i64.wrap (IntKind.i64.wrap (IntKind.i64.wrap (x4 + 1) + 1) + 1) +
                                            1) +
                                        1) +
                                    1) +
                                1)))
                          (setF (0 + x20.toNat) 6
                            (T.int IntKind.i64
                              (IntKind.i64.wrap
                                (IntKind.i64.wrap
                                    (IntKind.i64.wrap
                                        (IntKind.i64.wrap (IntKind.i64.wrap (IntKind.i64.wrap (x4 + 1) + 1) + 1) + 1) +
                                      1) +
                                  1)))
                            (setF (0 + x20.toNat) 5
                              (T.int IntKind.i64
                                (IntKind.i64.wrap
                                  (IntKind.i64.wrap
                                      (IntKind.i64.wrap (IntKind.i64.wrap (IntKind.i64.wrap (x4 + 1) + 1) + 1) + 1) +
                                    1)))
                              (setF (0 + x20.toNat) 4
                                (T.int IntKind.i64
                                  (IntKind.i64.wrap
                                    (IntKind.i64.wrap (IntKind.i64.wrap (IntKind.i64.wrap (x4 + 1) + 1) + 1) + 1)))
                                (setF (0 + x20.toNat) 3
                                  (T.int IntKind.i64
                                    (IntKind.i64.wrap (IntKind.i64.wrap (IntKind.i64.wrap (x4 + 1) + 1) + 1)))
                                  (setF (0 + x20.toNat) 2
                                    (T.int IntKind.i64 (IntKind.i64.wrap (IntKind.i64.wrap (x4 + 1) + 1)))
                                    (setF (0 + x20.toNat) 1 (T.int IntKind.i64 (IntKind.i64.wrap (x4 + 1)))
                                      (setF (0 + x20.toNat) 0 (T.int IntKind.i64 x4) fx2)))))))
                          (0 + x20.toNat) (8 + 0)).ln)
                    (setF (0 + x20.toNat) 7
                      (T.int IntKind.i64
                        (IntKind.i64.wrap
                          (IntKind.i64.wrap
                              (IntKind.i64.wrap
                                  (IntKind.i64.wrap
                                      (IntKind.i64.wrap (IntKind.i64.wrap (IntKind.i64.wrap (x4 + 1) + 1) + 1) + 1) +
                                    1) +
                                1) +
                            1)))
                      (setF (0 + x20.toNat) 6
                        (T.int IntKind.i64
                          (IntKind.i64.wrap
                            (IntKind.i64.wrap
                                (IntKind.i64.wrap
                                    (IntKind.i64.wrap (IntKind.i64.wrap (IntKind.i64.wrap (x4 + 1) + 1) + 1) + 1) +
                                  1) +
                              1)))
                        (setF (0 + x20.toNat) 5
                          (T.int IntKind.i64
                            (IntKind.i64.wrap
                              (IntKind.i64.wrap
                                  (IntKind.i64.wrap (IntKind.i64.wrap (IntKind.i64.wrap (x4 + 1) + 1) + 1) + 1) +
                                1)))
                          (setF (0 + x20.toNat) 4
                            (T.int IntKind.i64
                              (IntKind.i64.wrap
                                (IntKind.i64.wrap (IntKind.i64.wrap (IntKind.i64.wrap (x4 + 1) + 1) + 1) + 1)))
                            (setF (0 + x20.toNat) 3
                              (T.int IntKind.i64
                                (IntKind.i64.wrap (IntKind.i64.wrap (IntKind.i64.wrap (x4 + 1) + 1) + 1)))
                              (setF (0 + x20.toNat) 2
                                (T.int IntKind.i64 (IntKind.i64.wrap (IntKind.i64.wrap (x4 + 1) + 1)))
                                (setF (0 + x20.toNat) 1 (T.int IntKind.i64 (IntKind.i64.wrap (x4 + 1)))
                                  (setF (0 + x20.toNat) 0 (T.int IntKind.i64 x4) fx2)))))))))))))
          (0 + x20.toNat) (12 + 0)).ln.beq
    ((T.arr 13 nx2
            (setF (0 + x20.toNat) (11 + 0) (T.arr 3 (f_mkThS r2).length (atL Th.cs (f_mkThS r2)))
              (setF (0 + x20.toNat) (11 + 0)
                (T.lent 3
                  (setF (0 + x20.toNat) 10 (T.int IntKind.i64 (IntKind.i64.wrap (f_ctLI r1 + 1)))
                      (setF (0 + x20.toNat) 9 (T.int IntKind.i64 (f_ctLI r1))
                        (setF (0 + x20.toNat) (8 + 0) (T.arr 1 (f_mkLI r1).length (atL rowI (f_mkLI r1)))
                          (setF (0 + x20.toNat) (8 + 0)
                            (T.lent 1
                              (setF (0 + x20.toNat) 7
                                  (T.int IntKind.i64
                                    (IntKind.i64.wrap
                                      (IntKind.i64.wrap
                                          (IntKind.i64.wrap
                                              (IntKind.i64.wrap
                                                  (IntKind.i64.wrap
                                                      (IntKind.i64.wrap (IntKind.i64.wrap (x4 + 1) + 1) + 1) +
                                                    1) +
                                                1) +
                                            1) +
                                        1)))
                                  (setF (0 + x20.toNat) 6
                                    (T.int IntKind.i64
                                      (IntKind.i64.wrap
                                        (IntKind.i64.wrap
                                            (IntKind.i64.wrap
                                                (IntKind.i64.wrap
                                                    (IntKind.i64.wrap (IntKind.i64.wrap (x4 + 1) + 1) + 1) +
                                                  1) +
                                              1) +
                                          1)))
                                    (setF (0 + x20.toNat) 5
                                      (T.int IntKind.i64
                                        (IntKind.i64.wrap
                                          (IntKind.i64.wrap
                                              (IntKind.i64.wrap (IntKind.i64.wrap (IntKind.i64.wrap (x4 + 1) + 1) + 1) +
                                                1) +
                                            1)))
                                      (setF (0 + x20.toNat) 4
                                        (T.int IntKind.i64
                                          (IntKind.i64.wrap
                                            (IntKind.i64.wrap (IntKind.i64.wrap (IntKind.i64.wrap (x4 + 1) + 1) + 1) +
                                              1)))
                                        (setF (0 + x20.toNat) 3
                                          (T.int IntKind.i64
                                            (IntKind.i64.wrap (IntKind.i64.wrap (IntKind.i64.wrap (x4 + 1) + 1) + 1)))
                                          (setF (0 + x20.toNat) 2
                                            (T.int IntKind.i64 (IntKind.i64.wrap (IntKind.i64.wrap (x4 + 1) + 1)))
                                            (setF (0 + x20.toNat) 1 (T.int IntKind.i64 (IntKind.i64.wrap (x4 + 1)))
                                              (setF (0 + x20.toNat) 0 (T.int IntKind.i64 x4) fx2)))))))
                                  (0 + x20.toNat) (8 + 0)).ln)
                            (setF (0 + x20.toNat) 7
                              (T.int IntKind.i64
                                (IntKind.i64.wrap
                                  (IntKind.i64.wrap
                                      (IntKind.i64.wrap
                                          (IntKind.i64.wrap
                                              (IntKind.i64.wrap (IntKind.i64.wrap (IntKind.i64.wrap (x4 + 1) + 1) + 1) +
                                                1) +
                                            1) +
                                        1) +
                                    1)))
                              (setF (0 + x20.toNat) 6
                                (T.int IntKind.i64
                                  (IntKind.i64.wrap
                                    (IntKind.i64.wrap
                                        (IntKind.i64.wrap
                                            (IntKind.i64.wrap (IntKind.i64.wrap (IntKind.i64.wrap (x4 + 1) + 1) + 1) +
                                              1) +
                                          1) +
                                      1)))
                                (setF (0 + x20.toNat) 5
                                  (T.int IntKind.i64
                                    (IntKind.i64.wrap
                                      (IntKind.i64.wrap
                                          (IntKind.i64.wrap (IntKind.i64.wrap (IntKind.i64.wrap (x4 + 1) + 1) + 1) +
                                            1) +
                                        1)))
                                  (setF (0 + x20.toNat) 4
                                    (T.int IntKind.i64
                                      (IntKind.i64.wrap
                                        (IntKind.i64.wrap (IntKind.i64.wrap (IntKind.i64.wrap (x4 + 1) + 1) + 1) + 1)))
                                    (setF (0 + x20.toNat) 3
                                      (T.int IntKind.i64
                                        (IntKind.i64.wrap (IntKind.i64.wrap (IntKind.i64.wrap (x4 + 1) + 1) + 1)))
                                      (setF (0 + x20.toNat) 2
                                        (T.int IntKind.i64 (IntKind.i64.wrap (IntKind.i64.wrap (x4 + 1) + 1)))
                                        (setF (0 + x20.toNat) 1 (T.int IntKind.i64 (IntKind.i64.wrap (x4 + 1)))
                                          (setF (0 + x20.toNat) 0 (T.int IntKind.i64 x4) fx2)))))))))))
                      (0 + x20.toNat) (11 + 0)).ln)
                (setF (0 + x20.toNat) 10 (T.int IntKind.i64 (IntKind.i64.wrap (f_ctLI r1 + 1)))
                  (setF (0 + x20.toNat) 9 (T.int IntKind.i64 (f_ctLI r1))
                    (setF (0 + x20.toNat) (8 + 0) (T.arr 1 (f_mkLI r1).length (atL rowI (f_mkLI r1)))
                      (setF (0 + x20.toNat) (8 + 0)
                        (T.lent 1
                          (setF (0 + x20.toNat) 7
                              (T.int IntKind.i64
                                (IntKind.i64.wrap
                                  (IntKind.i64.wrap
                                      (IntKind.i64.wrap
                                          (IntKind.i64.wrap
                                              (IntKind.i64.wrap (IntKind.i64.wrap (IntKind.i64.wrap (x4 + 1) + 1) + 1) +
                                                1) +
                                            1) +
                                        1) +
                                    1)))
                              (setF (0 + x20.toNat) 6
                                (T.int IntKind.i64
                                  (IntKind.i64.wrap
                                    (IntKind.i64.wrap
                                        (IntKind.i64.wrap
                                            (IntKind.i64.wrap (IntKind.i64.wrap (IntKind.i64.wrap (x4 + 1) + 1) + 1) +
                                              1) +
                                          1) +
                                      1)))
                                (setF (0 + x20.toNat) 5
                                  (T.int IntKind.i64
                                    (IntKind.i64.wrap
                                      (IntKind.i64.wrap
                                          (IntKind.i64.wrap (IntKind.i64.wrap (IntKind.i64.wrap (x4 + 1) + 1) + 1) +
                                            1) +
                                        1)))
                                  (setF (0 + x20.toNat) 4
                                    (T.int IntKind.i64
                                      (IntKind.i64.wrap
                                        (IntKind.i64.wrap (IntKind.i64.wrap (IntKind.i64.wrap (x4 + 1) + 1) + 1) + 1)))
                                    (setF (0 + x20.toNat) 3
                                      (T.int IntKind.i64
                                        (IntKind.i64.wrap (IntKind.i64.wrap (IntKind.i64.wrap (x4 + 1) + 1) + 1)))
                                      (setF (0 + x20.toNat) 2
                                        (T.int IntKind.i64 (IntKind.i64.wrap (IntKind.i64.wrap (x4 + 1) + 1)))
                                        (setF (0 + x20.toNat) 1 (T.int IntKind.i64 (IntKind.i64.wrap (x4 + 1)))
                                          (setF (0 + x20.toNat) 0 (T.int IntKind.i64 x4) fx2)))))))
                              (0 + x20.toNat) (8 + 0)).ln)
                        (setF (0 + x20.toNat) 7
                          (T.int IntKind.i64
                            (IntKind.i64.wrap
                              (IntKind.i64.wrap
                                  (IntKind.i64.wrap
                                      (IntKind.i64.wrap
                                          (IntKind.i64.wrap (IntKind.i64.wrap (IntKind.i64.wrap (x4 + 1) + 1) + 1) +
                                            1) +
                                        1) +
                                    1) +
                                1)))
                          (setF (0 + x20.toNat) 6
                            (T.int IntKind.i64
                              (IntKind.i64.wrap
                                (IntKind.i64.wrap
                                    (IntKind.i64.wrap
                                        (IntKind.i64.wrap (IntKind.i64.wrap (IntKind.i64.wrap (x4 + 1) + 1) + 1) + 1) +
                                      1) +
                                  1)))
                            (setF (0 + x20.toNat) 5
                              (T.int IntKind.i64
                                (IntKind.i64.wrap
                                  (IntKind.i64.wrap
                                      (IntKind.i64.wrap (IntKind.i64.wrap (IntKind.i64.wrap (x4 + 1) + 1) + 1) + 1) +
                                    1)))
                              (setF (0 + x20.toNat) 4
                                (T.int IntKind.i64
                                  (IntKind.i64.wrap
                                    (IntKind.i64.wrap (IntKind.i64.wrap (IntKind.i64.wrap (x4 + 1) + 1) + 1) + 1)))
                                (setF (0 + x20.toNat) 3
                                  (T.int IntKind.i64
                                    (IntKind.i64.wrap (IntKind.i64.wrap (IntKind.i64.wrap (x4 + 1) + 1) + 1)))
                                  (setF (0 + x20.toNat) 2
                                    (T.int IntKind.i64 (IntKind.i64.wrap (IntKind.i64.wrap (x4 + 1) + 1)))
                                    (setF (0 + x20.toNat) 1 (T.int IntKind.i64 (IntKind.i64.wrap (x4 + 1)))
                                      (setF (0 + x20.toNat) 0 (T.int IntKind.i64 x4) fx2))))))))))))))).get
        [0 + x20.toNat, 12 + 0]).ln &&
  Nat.beq 1
    ((T.arr 13 nx2
            (setF (0 + x20.toNat) (11 + 0) (T.arr 3 (f_mkThS r2).length (atL Th.cs (f_mkThS r2)))
              (setF (0 + x20.toNat) (11 + 0)
                (T.lent 3
                  (setF (0 + x20.toNat) 10 (T.int IntKind.i64 (IntKind.i64.wrap (f_ctLI r1 + 1)))
                      (setF (0 + x20.toNat) 9 (T.int IntKind.i64 (f_ctLI r1))
                        (setF (0 + x20.toNat) (8 + 0) (T.arr 1 (f_mkLI r1).length (atL rowI (f_mkLI r1)))
                          (setF (0 + x20.toNat) (8 + 0)
                            (T.lent 1
                              (setF (0 + x20.toNat) 7
                                  (T.int IntKind.i64
                                    (IntKind.i64.wrap
                                      (IntKind.i64.wrap
                                          (IntKind.i64.wrap
                                              (IntKind.i64.wrap
                                                  (IntKind.i64.wrap
                                                      (IntKind.i64.wrap (IntKind.i64.wrap (x4 + 1) + 1) + 1) +
                                                    1) +
                                                1) +
                                            1) +
                                        1)))
                                  (setF (0 + x20.toNat) 6
                                    (T.int IntKind.i64
                                      (IntKind.i64.wrap
                                        (IntKind.i64.wrap
                                            (IntKind.i64.wrap
                                                (IntKind.i64.wrap
                                                    (IntKind.i64.wrap (IntKind.i64.wrap (x4 + 1) + 1) + 1) +
                                                  1) +
                                              1) +
                                          1)))
                                    (setF (0 + x20.toNat) 5
                                      (T.int IntKind.i64
                                        (IntKind.i64.wrap
                                          (IntKind.i64.wrap
                                              (IntKind.i64.wrap (IntKind.i64.wrap (IntKind.i64.wrap (x4 + 1) + 1) + 1) +
                                                1) +
                                            1)))
                                      (setF (0 + x20.toNat) 4
                                        (T.int IntKind.i64
                                          (IntKind.i64.wrap
                                            (IntKind.i64.wrap (IntKind.i64.wrap (IntKind.i64.wrap (x4 + 1) + 1) + 1) +
                                              1)))
                                        (setF (0 + x20.toNat) 3
                                          (T.int IntKind.i64
                                            (IntKind.i64.wrap (IntKind.i64.wrap (IntKind.i64.wrap (x4 + 1) + 1) + 1)))
                                          (setF (0 + x20.toNat) 2
                                            (T.int IntKind.i64 (IntKind.i64.wrap (IntKind.i64.wrap (x4 + 1) + 1)))
                                            (setF (0 + x20.toNat) 1 (T.int IntKind.i64 (IntKind.i64.wrap (x4 + 1)))
                                              (setF (0 + x20.toNat) 0 (T.int IntKind.i64 x4) fx2)))))))
                                  (0 + x20.toNat) (8 + 0)).ln)
                            (setF (0 + x20.toNat) 7
                              (T.int IntKind.i64
                                (IntKind.i64.wrap
                                  (IntKind.i64.wrap
                                      (IntKind.i64.wrap
                                          (IntKind.i64.wrap
                                              (IntKind.i64.wrap (IntKind.i64.wrap (IntKind.i64.wrap (x4 + 1) + 1) + 1) +
                                                1) +
                                            1) +
                                        1) +
                                    1)))
                              (setF (0 + x20.toNat) 6
                                (T.int IntKind.i64
                                  (IntKind.i64.wrap
                                    (IntKind.i64.wrap
                                        (IntKind.i64.wrap
                                            (IntKind.i64.wrap (IntKind.i64.wrap (IntKind.i64.wrap (x4 + 1) + 1) + 1) +
                                              1) +
                                          1) +
                                      1)))
                                (setF (0 + x20.toNat) 5
                                  (T.int IntKind.i64
                                    (IntKind.i64.wrap
                                      (IntKind.i64.wrap
                                          (IntKind.i64.wrap (IntKind.i64.wrap (IntKind.i64.wrap (x4 + 1) + 1) + 1) +
                                            1) +
                                        1)))
                                  (setF (0 + x20.toNat) 4
                                    (T.int IntKind.i64
                                      (IntKind.i64.wrap
                                        (IntKind.i64.wrap (IntKind.i64.wrap (IntKind.i64.wrap (x4 + 1) + 1) + 1) + 1)))
                                    (setF (0 + x20.toNat) 3
                                      (T.int IntKind.i64
                                        (IntKind.i64.wrap (IntKind.i64.wrap (IntKind.i64.wrap (x4 + 1) + 1) + 1)))
                                      (setF (0 + x20.toNat) 2
                                        (T.int IntKind.i64 (IntKind.i64.wrap (IntKind.i64.wrap (x4 + 1) + 1)))
                                        (setF (0 + x20.toNat) 1 (T.int IntKind.i64 (IntKind.i64.wrap (x4 + 1)))
                                          (setF (0 + x20.toNat) 0 (T.int IntKind.i64 x4) fx2)))))))))))
                      (0 + x20.toNat) (11 + 0)).ln)
                (setF (0 + x20.toNat) 10 (T.int IntKind.i64 (IntKind.i64.wrap (f_ctLI r1 + 1)))
                  (setF (0 + x20.toNat) 9 (T.int IntKind.i64 (f_ctLI r1))
                    (setF (0 + x20.toNat) (8 + 0) (T.arr 1 (f_mkLI r1).length (atL rowI (f_mkLI r1)))
                      (setF (0 + x20.toNat) (8 + 0)
                        (T.lent 1
                          (setF (0 + x20.toNat) 7
                              (T.int IntKind.i64
                                (IntKind.i64.wrap
                                  (IntKind.i64.wrap
                                      (IntKind.i64.wrap
                                          (IntKind.i64.wrap
                                              (IntKind.i64.wrap (IntKind.i64.wrap (IntKind.i64.wrap (x4 + 1) + 1) + 1) +
                                                1) +
                                            1) +
                                        1) +
                                    1)))
                              (setF (0 + x20.toNat) 6
                                (T.int IntKind.i64
                                  (IntKind.i64.wrap
                                    (IntKind.i64.wrap
                                        (IntKind.i64.wrap
                                            (IntKind.i64.wrap (IntKind.i64.wrap (IntKind.i64.wrap (x4 + 1) + 1) + 1) +
                                              1) +
                                          1) +
                                      1)))
                                (setF (0 + x20.toNat) 5
                                  (T.int IntKind.i64
                                    (IntKind.i64.wrap
                                      (IntKind.i64.wrap
                                          (IntKind.i64.wrap (IntKind.i64.wrap (IntKind.i64.wrap (x4 + 1) + 1) + 1) +
                                            1) +
                                        1)))
                                  (setF (0 + x20.toNat) 4
                                    (T.int IntKind.i64
                                      (IntKind.i64.wrap
                                        (IntKind.i64.wrap (IntKind.i64.wrap (IntKind.i64.wrap (x4 + 1) + 1) + 1) + 1)))
                                    (setF (0 + x20.toNat) 3
                                      (T.int IntKind.i64
                                        (IntKind.i64.wrap (IntKind.i64.wrap (IntKind.i64.wrap (x4 + 1) + 1) + 1)))
                                      (setF (0 + x20.toNat) 2
                                        (T.int IntKind.i64 (IntKind.i64.wrap (IntKind.i64.wrap (x4 + 1) + 1)))
                                        (setF (0 + x20.toNat) 1 (T.int IntKind.i64 (IntKind.i64.wrap (x4 + 1)))
                                          (setF (0 + x20.toNat) 0 (T.int IntKind.i64 x4) fx2)))))))
                              (0 + x20.toNat) (8 + 0)).ln)
                        (setF (0 + x20.toNat) 7
                          (T.int IntKind.i64
                            (IntKind.i64.wrap
                              (IntKind.i64.wrap
                                  (IntKind.i64.wrap
                                      (IntKind.i64.wrap
                                          (IntKind.i64.wrap (IntKind.i64.wrap (IntKind.i64.wrap (x4 + 1) + 1) + 1) +
                                            1) +
                                        1) +
                                    1) +
                                1)))
                          (setF (0 + x20.toNat) 6
                            (T.int IntKind.i64
                              (IntKind.i64.wrap
                                (IntKind.i64.wrap
                                    (IntKind.i64.wrap
                                        (IntKind.i64.wrap (IntKind.i64.wrap (IntKind.i64.wrap (x4 + 1) + 1) + 1) + 1) +
                                      1) +
                                  1)))
                            (setF (0 + x20.toNat) 5
                              (T.int IntKind.i64
                                (IntKind.i64.wrap
                                  (IntKind.i64.wrap
                                      (IntKind.i64.wrap (IntKind.i64.wrap (IntKind.i64.wrap (x4 + 1) + 1) + 1) + 1) +
                                    1)))
                              (setF (0 + x20.toNat) 4
                                (T.int IntKind.i64
                                  (IntKind.i64.wrap
                                    (IntKind.i64.wrap (IntKind.i64.wrap (IntKind.i64.wrap (x4 + 1) + 1) + 1) + 1)))
                                (setF (0 + x20.toNat) 3
                                  (T.int IntKind.i64
                                    (IntKind.i64.wrap (IntKind.i64.wrap (IntKind.i64.wrap (x4 + 1) + 1) + 1)))
                                  (setF (0 + x20.toNat) 2
                                    (T.int IntKind.i64 (IntKind.i64.wrap (IntKind.i64.wrap (x4 + 1) + 1)))
                                    (setF (0 + x20.toNat) 1 (T.int IntKind.i64 (IntKind.i64.wrap (x4 + 1)))
                                      (setF (0 + x20.toNat) 0 (T.int IntKind.i64 x4) fx2))))))))))))))).get
        [0 + x20.toNat, 12 + 0]).wd) <|
  entK okh_LI eam_LI (fun x => x) [(1, false,
    [C.tr true
        (T.arr 1
          (setF (0 + x20.toNat) (11 + 0) (T.arr 3 (f_mkThS r2).length (atL Th.cs (f_mkThS r2)))
              (setF (0 + x20.toNat) (11 + 0)
                (T.lent 3
                  (setF (0 + x20.toNat) 10 (T.int IntKind.i64 (IntKind.i64.wrap (f_ctLI r1 + 1)))
                      (setF (0 + x20.toNat) 9 (T.int IntKind.i64 (f_ctLI r1))
                        (setF (0 + x20.toNat) (8 + 0) (T.arr 1 (f_mkLI r1).length (atL rowI (f_mkLI r1)))
                          (setF (0 + x20.toNat) (8 + 0)
                            (T.lent 1
                              (setF (0 + x20.toNat) 7
                                  (T.int IntKind.i64
                                    (IntKind.i64.wrap
                                      (IntKind.i64.wrap
                                          (IntKind.i64.wrap
                                              (IntKind.i64.wrap
                                                  (IntKind.i64.wrap
                                                      (IntKind.i64.wrap (IntKind.i64.wrap (x4 + 1) + 1) + 1) +
                                                    1) +
                                                1) +
                                            1) +
                                        1)))
                                  (setF (0 + x20.toNat) 6
                                    (T.int IntKind.i64
                                      (IntKind.i64.wrap
                                        (IntKind.i64.wrap
                                            (IntKind.i64.wrap
                                                (IntKind.i64.wrap
                                                    (IntKind.i64.wrap (IntKind.i64.wrap (x4 + 1) + 1) + 1) +
                                                  1) +
                                              1) +
                                          1)))
                                    (setF (0 + x20.toNat) 5
                                      (T.int IntKind.i64
                                        (IntKind.i64.wrap
                                          (IntKind.i64.wrap
                                              (IntKind.i64.wrap (IntKind.i64.wrap (IntKind.i64.wrap (x4 + 1) + 1) + 1) +
                                                1) +
                                            1)))
                                      (setF (0 + x20.toNat) 4
                                        (T.int IntKind.i64
                                          (IntKind.i64.wrap
                                            (IntKind.i64.wrap (IntKind.i64.wrap (IntKind.i64.wrap (x4 + 1) + 1) + 1) +
                                              1)))
                                        (setF (0 + x20.toNat) 3
                                          (T.int IntKind.i64
                                            (IntKind.i64.wrap (IntKind.i64.wrap (IntKind.i64.wrap (x4 + 1) + 1) + 1)))
                                          (setF (0 + x20.toNat) 2
                                            (T.int IntKind.i64 (IntKind.i64.wrap (IntKind.i64.wrap (x4 + 1) + 1)))
                                            (setF (0 + x20.toNat) 1 (T.int IntKind.i64 (IntKind.i64.wrap (x4 + 1)))
                                              (setF (0 + x20.toNat) 0 (T.int IntKind.i64 x4) fx2)))))))
                                  (0 + x20.toNat) (8 + 0)).ln)
                            (setF (0 + x20.toNat) 7
                              (T.int IntKind.i64
                                (IntKind.i64.wrap
                                  (IntKind.i64.wrap
                                      (IntKind.i64.wrap
                                          (IntKind.i64.wrap
                                              (IntKind.i64.wrap (IntKind.i64.wrap (IntKind.i64.wrap (x4 + 1) + 1) + 1) +
                                                1) +
                                            1) +
                                        1) +
                                    1)))
                              (setF (0 + x20.toNat) 6
                                (T.int IntKind.i64
                                  (IntKind.i64.wrap
                                    (IntKind.i64.wrap
                                        (IntKind.i64.wrap
                                            (IntKind.i64.wrap (IntKind.i64.wrap (IntKind.i64.wrap (x4 + 1) + 1) + 1) +
                                              1) +
                                          1) +
                                      1)))
                                (setF (0 + x20.toNat) 5
                                  (T.int IntKind.i64
                                    (IntKind.i64.wrap
                                      (IntKind.i64.wrap
                                          (IntKind.i64.wrap (IntKind.i64.wrap (IntKind.i64.wrap (x4 + 1) + 1) + 1) +
                                            1) +
                                        1)))
                                  (setF (0 + x20.toNat) 4
                                    (T.int IntKind.i64
                                      (IntKind.i64.wrap
                                        (IntKind.i64.wrap (IntKind.i64.wrap (IntKind.i64.wrap (x4 + 1) + 1) + 1) + 1)))
                                    (setF (0 + x20.toNat) 3
                                      (T.int IntKind.i64
                                        (IntKind.i64.wrap (IntKind.i64.wrap (IntKind.i64.wrap (x4 + 1) + 1) + 1)))
                                      (setF (0 + x20.toNat) 2
                                        (T.int IntKind.i64 (IntKind.i64.wrap (IntKind.i64.wrap (x4 + 1) + 1)))
                                        (setF (0 + x20.toNat) 1 (T.int IntKind.i64 (IntKind.i64.wrap (x4 + 1)))
                                          (setF (0 + x20.toNat) 0 (T.int IntKind.i64 x4) fx2)))))))))))
                      (0 + x20.toNat) (11 + 0)).ln)
                (setF (0 + x20.toNat) 10 (T.int IntKind.i64 (IntKind.i64.wrap (f_ctLI r1 + 1)))
                  (setF (0 + x20.toNat) 9 (T.int IntKind.i64 (f_ctLI r1))
                    (setF (0 + x20.toNat) (8 + 0) (T.arr 1 (f_mkLI r1).length (atL rowI (f_mkLI r1)))
                      (setF (0 + x20.toNat) (8 + 0)
                        (T.lent 1
                          (setF (0 + x20.toNat) 7
                              (T.int IntKind.i64
                                (IntKind.i64.wrap
                                  (IntKind.i64.wrap
                                      (IntKind.i64.wrap
                                          (IntKind.i64.wrap
                                              (IntKind.i64.wrap (IntKind.i64.wrap (IntKind.i64.wrap (x4 + 1) + 1) + 1) +
                                                1) +
                                            1) +
                                        1) +
                                    1)))
                              (setF (0 + x20.toNat) 6
                                (T.int IntKind.i64
                                  (IntKind.i64.wrap
                                    (IntKind.i64.wrap
                                        (IntKind.i64.wrap
                                            (IntKind.i64.wrap (IntKind.i64.wrap (IntKind.i64.wrap (x4 + 1) + 1) + 1) +
                                              1) +
                                          1) +
                                      1)))
                                (setF (0 + x20.toNat) 5
                                  (T.int IntKind.i64
                                    (IntKind.i64.wrap
                                      (IntKind.i64.wrap
                                          (IntKind.i64.wrap (IntKind.i64.wrap (IntKind.i64.wrap (x4 + 1) + 1) + 1) +
                                            1) +
                                        1)))
                                  (setF (0 + x20.toNat) 4
                                    (T.int IntKind.i64
                                      (IntKind.i64.wrap
                                        (IntKind.i64.wrap (IntKind.i64.wrap (IntKind.i64.wrap (x4 + 1) + 1) + 1) + 1)))
                                    (setF (0 + x20.toNat) 3
                                      (T.int IntKind.i64
                                        (IntKind.i64.wrap (IntKind.i64.wrap (IntKind.i64.wrap (x4 + 1) + 1) + 1)))
                                      (setF (0 + x20.toNat) 2
                                        (T.int IntKind.i64 (IntKind.i64.wrap (IntKind.i64.wrap (x4 + 1) + 1)))
                                        (setF (0 + x20.toNat) 1 (T.int IntKind.i64 (IntKind.i64.wrap (x4 + 1)))
                                          (setF (0 + x20.toNat) 0 (T.int IntKind.i64 x4) fx2)))))))
                              (0 + x20.toNat) (8 + 0)).ln)
                        (setF (0 + x20.toNat) 7
                          (T.int IntKind.i64
                            (IntKind.i64.wrap
                              (IntKind.i64.wrap
                                  (IntKind.i64.wrap
                                      (IntKind.i64.wrap
                                          (IntKind.i64.wrap (IntKind.i64.wrap (IntKind.i64.wrap (x4 + 1) + 1) + 1) +
                                            1) +
                                        1) +
                                    1) +
                                1)))
                          (setF (0 + x20.toNat) 6
                            (T.int IntKind.i64
                              (IntKind.i64.wrap
                                (IntKind.i64.wrap
                                    (IntKind.i64.wrap
                                        (IntKind.i64.wrap (IntKind.i64.wrap (IntKind.i64.wrap (x4 + 1) + 1) + 1) + 1) +
                                      1) +
                                  1)))
                            (setF (0 + x20.toNat) 5
                              (T.int IntKind.i64
                                (IntKind.i64.wrap
                                  (IntKind.i64.wrap
                                      (IntKind.i64.wrap (IntKind.i64.wrap (IntKind.i64.wrap (x4 + 1) + 1) + 1) + 1) +
                                    1)))
                              (setF (0 + x20.toNat) 4
                                (T.int IntKind.i64
                                  (IntKind.i64.wrap
                                    (IntKind.i64.wrap (IntKind.i64.wrap (IntKind.i64.wrap (x4 + 1) + 1) + 1) + 1)))
                                (setF (0 + x20.toNat) 3
                                  (T.int IntKind.i64
                                    (IntKind.i64.wrap (IntKind.i64.wrap (IntKind.i64.wrap (x4 + 1) + 1) + 1)))
                                  (setF (0 + x20.toNat) 2
                                    (T.int IntKind.i64 (IntKind.i64.wrap (IntKind.i64.wrap (x4 + 1) + 1)))
                                    (setF (0 + x20.toNat) 1 (T.int IntKind.i64 (IntKind.i64.wrap (x4 + 1)))
                                      (setF (0 + x20.toNat) 0 (T.int IntKind.i64 x4) fx2)))))))))))))
              (0 + x20.toNat) (12 + 0)).ln
          ((T.arr 13 nx2
                  (setF (0 + x20.toNat) (11 + 0) (T.arr 3 (f_mkThS r2).length (atL Th.cs (f_mkThS r2)))
                    (setF (0 + x20.toNat) (11 + 0)
                      (T.lent 3
                        (setF (0 + x20.toNat) 10 (T.int IntKind.i64 (IntKind.i64.wrap (f_ctLI r1 + 1)))
                            (setF (0 + x20.toNat) 9 (T.int IntKind.i64 (f_ctLI r1))
                              (setF (0 + x20.toNat) (8 + 0)
                                (T.arr 1 (f_mkLI r1).length (atL rowI (f_mkLI r1)))
                                (setF (0 + x20.toNat) (8 + 0)
                                  (T.lent 1
                                    (setF (0 + x20.toNat) 7
                                        (T.int IntKind.i64
                                          (IntKind.i64.wrap
                                            (IntKind.i64.wrap
                                                (IntKind.i64.wrap
                                                    (IntKind.i64.wrap
                                                        (IntKind.i64.wrap
                                                            (IntKind.i64.wrap (IntKind.i64.wrap (x4 + 1) + 1) + 1) +
                                                          1) +
                                                      1) +
                                                  1) +
                                              1)))
                                        (setF (0 + x20.toNat) 6
                                          (T.int IntKind.i64
                                            (IntKind.i64.wrap
                                              (IntKind.i64.wrap
                                                  (IntKind.i64.wrap
                                                      (IntKind.i64.wrap
                                                          (IntKind.i64.wrap (IntKind.i64.wrap (x4 + 1) + 1) + 1) +
                                                        1) +
                                                    1) +
                                                1)))
                                          (setF (0 + x20.toNat) 5
                                            (T.int IntKind.i64
                                              (IntKind.i64.wrap
                                                (IntKind.i64.wrap
                                                    (IntKind.i64.wrap
                                                        (IntKind.i64.wrap (IntKind.i64.wrap (x4 + 1) + 1) + 1) +
                                                      1) +
                                                  1)))
                                            (setF (0 + x20.toNat) 4
                                              (T.int IntKind.i64
                                                (IntKind.i64.wrap
                                                  (IntKind.i64.wrap
                                                      (IntKind.i64.wrap (IntKind.i64.wrap (x4 + 1) + 1) + 1) +
                                                    1)))
                                              (setF (0 + x20.toNat) 3
                                                (T.int IntKind.i64
                                                  (IntKind.i64.wrap
                                                    (IntKind.i64.wrap (IntKind.i64.wrap (x4 + 1) + 1) + 1)))
                                                (setF (0 + x20.toNat) 2
                                                  (T.int IntKind.i64 (IntKind.i64.wrap (IntKind.i64.wrap (x4 + 1) + 1)))
                                                  (setF (0 + x20.toNat) 1
                                                    (T.int IntKind.i64 (IntKind.i64.wrap (x4 + 1)))
                                                    (setF (0 + x20.toNat) 0 (T.int IntKind.i64 x4) fx2)))))))
                                        (0 + x20.toNat) (8 + 0)).ln)
                                  (setF (0 + x20.toNat) 7
                                    (T.int IntKind.i64
                                      (IntKind.i64.wrap
                                        (IntKind.i64.wrap
                                            (IntKind.i64.wrap
                                                (IntKind.i64.wrap
                                                    (IntKind.i64.wrap
                                                        (IntKind.i64.wrap (IntKind.i64.wrap (x4 + 1) + 1) + 1) +
                                                      1) +
                                                  1) +
                                              1) +
                                          1)))
                                    (setF (0 + x20.toNat) 6
                                      (T.int IntKind.i64
                                        (IntKind.i64.wrap
                                          (IntKind.i64.wrap
                                              (IntKind.i64.wrap
                                                  (IntKind.i64.wrap
                                                      (IntKind.i64.wrap (IntKind.i64.wrap (x4 + 1) + 1) + 1) +
                                                    1) +
                                                1) +
                                            1)))
                                      (setF (0 + x20.toNat) 5
                                        (T.int IntKind.i64
                                          (IntKind.i64.wrap
                                            (IntKind.i64.wrap
                                                (IntKind.i64.wrap
                                                    (IntKind.i64.wrap (IntKind.i64.wrap (x4 + 1) + 1) + 1) +
                                                  1) +
                                              1)))
                                        (setF (0 + x20.toNat) 4
                                          (T.int IntKind.i64
                                            (IntKind.i64.wrap
                                              (IntKind.i64.wrap (IntKind.i64.wrap (IntKind.i64.wrap (x4 + 1) + 1) + 1) +
                                                1)))
                                          (setF (0 + x20.toNat) 3
                                            (T.int IntKind.i64
                                              (IntKind.i64.wrap (IntKind.i64.wrap (IntKind.i64.wrap (x4 + 1) + 1) + 1)))
                                            (setF (0 + x20.toNat) 2
                                              (T.int IntKind.i64 (IntKind.i64.wrap (IntKind.i64.wrap (x4 + 1) + 1)))
                                              (setF (0 + x20.toNat) 1 (T.int IntKind.i64 (IntKind.i64.wrap (x4 + 1)))
                                                (setF (0 + x20.toNat) 0 (T.int IntKind.i64 x4) fx2)))))))))))
                            (0 + x20.toNat) (11 + 0)).ln)
                      (setF (0 + x20.toNat) 10 (T.int IntKind.i64 (IntKind.i64.wrap (f_ctLI r1 + 1)))
                        (setF (0 + x20.toNat) 9 (T.int IntKind.i64 (f_ctLI r1))
                          (setF (0 + x20.toNat) (8 + 0)
                            (T.arr 1 (f_mkLI r1).length (atL rowI (f_mkLI r1)))
                            (setF (0 + x20.toNat) (8 + 0)
                              (T.lent 1
                                (setF (0 + x20.toNat) 7
                                    (T.int IntKind.i64
                                      (IntKind.i64.wrap
                                        (IntKind.i64.wrap
                                            (IntKind.i64.wrap
                                                (IntKind.i64.wrap
                                                    (IntKind.i64.wrap
                                                        (IntKind.i64.wrap (IntKind.i64.wrap (x4 + 1) + 1) + 1) +
                                                      1) +
                                                  1) +
                                              1) +
                                          1)))
                                    (setF (0 + x20.toNat) 6
                                      (T.int IntKind.i64
                                        (IntKind.i64.wrap
                                          (IntKind.i64.wrap
                                              (IntKind.i64.wrap
                                                  (IntKind.i64.wrap
                                                      (IntKind.i64.wrap (IntKind.i64.wrap (x4 + 1) + 1) + 1) +
                                                    1) +
                                                1) +
                                            1)))
                                      (setF (0 + x20.toNat) 5
                                        (T.int IntKind.i64
                                          (IntKind.i64.wrap
                                            (IntKind.i64.wrap
                                                (IntKind.i64.wrap
                                                    (IntKind.i64.wrap (IntKind.i64.wrap (x4 + 1) + 1) + 1) +
                                                  1) +
                                              1)))
                                        (setF (0 + x20.toNat) 4
                                          (T.int IntKind.i64
                                            (IntKind.i64.wrap
                                              (IntKind.i64.wrap (IntKind.i64.wrap (IntKind.i64.wrap (x4 + 1) + 1) + 1) +
                                                1)))
                                          (setF (0 + x20.toNat) 3
                                            (T.int IntKind.i64
                                              (IntKind.i64.wrap (IntKind.i64.wrap (IntKind.i64.wrap (x4 + 1) + 1) + 1)))
                                            (setF (0 + x20.toNat) 2
                                              (T.int IntKind.i64 (IntKind.i64.wrap (IntKind.i64.wrap (x4 + 1) + 1)))
                                              (setF (0 + x20.toNat) 1 (T.int IntKind.i64 (IntKind.i64.wrap (x4 + 1)))
                                                (setF (0 + x20.toNat) 0 (T.int IntKind.i64 x4) fx2)))))))
                                    (0 + x20.toNat) (8 + 0)).ln)
                              (setF (0 + x20.toNat) 7
                                (T.int IntKind.i64
                                  (IntKind.i64.wrap
                                    (IntKind.i64.wrap
                                        (IntKind.i64.wrap
                                            (IntKind.i64.wrap
                                                (IntKind.i64.wrap
                                                    (IntKind.i64.wrap (IntKind.i64.wrap (x4 + 1) + 1) + 1) +
                                                  1) +
                                              1) +
                                          1) +
                                      1)))
                                (setF (0 + x20.toNat) 6
                                  (T.int IntKind.i64
                                    (IntKind.i64.wrap
                                      (IntKind.i64.wrap
                                          (IntKind.i64.wrap
                                              (IntKind.i64.wrap (IntKind.i64.wrap (IntKind.i64.wrap (x4 + 1) + 1) + 1) +
                                                1) +
                                            1) +
                                        1)))
                                  (setF (0 + x20.toNat) 5
                                    (T.int IntKind.i64
                                      (IntKind.i64.wrap
                                        (IntKind.i64.wrap
                                            (IntKind.i64.wrap (IntKind.i64.wrap (IntKind.i64.wrap (x4 + 1) + 1) + 1) +
                                              1) +
                                          1)))
                                    (setF (0 + x20.toNat) 4
                                      (T.int IntKind.i64
                                        (IntKind.i64.wrap
                                          (IntKind.i64.wrap (IntKind.i64.wrap (IntKind.i64.wrap (x4 + 1) + 1) + 1) +
                                            1)))
                                      (setF (0 + x20.toNat) 3
                                        (T.int IntKind.i64
                                          (IntKind.i64.wrap (IntKind.i64.wrap (IntKind.i64.wrap (x4 + 1) + 1) + 1)))
                                        (setF (0 + x20.toNat) 2
                                          (T.int IntKind.i64 (IntKind.i64.wrap (IntKind.i64.wrap (x4 + 1) + 1)))
                                          (setF (0 + x20.toNat) 1 (T.int IntKind.i64 (IntKind.i64.wrap (x4 + 1)))
                                            (setF (0 + x20.toNat) 0 (T.int IntKind.i64 x4) fx2))))))))))))))).get
              [0 + x20.toNat, 12 + 0]).fn)]),
  (0, false, [C.tr false (T.int IntKind.i64 (f_ctThS r2))])] fun (r3 : List Int × Int) =>
  gd ((setF (0 + x20.toNat) (11 + 0) (T.arr 3 (f_mkThS r2).length (atL Th.cs (f_mkThS r2)))
          (setF (0 + x20.toNat) (11 + 0)
            (T.lent 3
              (setF (0 + x20.toNat) 10 (T.int IntKind.i64 (IntKind.i64.wrap (f_ctLI r1 + 1)))
                  (setF (0 + x20.toNat) 9 (T.int IntKind.i64 (f_ctLI r1))
                    (setF (0 + x20.toNat) (8 + 0) (T.arr 1 (f_mkLI r1).length (atL rowI (f_mkLI r1)))
                      (setF (0 + x20.toNat) (8 + 0)
                        (T.lent 1
                          (setF (0 + x20.toNat) 7
                              (T.int IntKind.i64
                                (IntKind.i64.wrap
                                  (IntKind.i64.wrap
                                      (IntKind.i64.wrap
                                          (IntKind.i64.wrap
                                              (IntKind.i64.wrap (IntKind.i64.wrap (IntKind.i64.wrap (x4 + 1) + 1) + 1) +
                                                1) +
                                            1) +
                                        1) +
                                    1)))
                              (setF (0 + x20.toNat) 6
                                (T.int IntKind.i64
                                  (IntKind.i64.wrap
                                    (IntKind.i64.wrap
                                        (IntKind.i64.wrap
                                            (IntKind.i64.wrap (IntKind.i64.wrap (IntKind.i64.wrap (x4 + 1) + 1) + 1) +
                                              1) +
                                          1) +
                                      1)))
                                (setF (0 + x20.toNat) 5
                                  (T.int IntKind.i64
                                    (IntKind.i64.wrap
                                      (IntKind.i64.wrap
                                          (IntKind.i64.wrap (IntKind.i64.wrap (IntKind.i64.wrap (x4 + 1) + 1) + 1) +
                                            1) +
                                        1)))
                                  (setF (0 + x20.toNat) 4
                                    (T.int IntKind.i64
                                      (IntKind.i64.wrap
                                        (IntKind.i64.wrap (IntKind.i64.wrap (IntKind.i64.wrap (x4 + 1) + 1) + 1) + 1)))
                                    (setF (0 + x20.toNat) 3
                                      (T.int IntKind.i64
                                        (IntKind.i64.wrap (IntKind.i64.wrap (IntKind.i64.wrap (x4 + 1) + 1) + 1)))
                                      (setF (0 + x20.toNat) 2
                                        (T.int IntKind.i64 (IntKind.i64.wrap (IntKind.i64.wrap (x4 + 1) + 1)))
                                        (setF (0 + x20.toNat) 1 (T.int IntKind.i64 (IntKind.i64.wrap (x4 + 1)))
                                          (setF (0 + x20.toNat) 0 (T.int IntKind.i64 x4) fx2)))))))
                              (0 + x20.toNat) (8 + 0)).ln)
                        (setF (0 + x20.toNat) 7
                          (T.int IntKind.i64
                            (IntKind.i64.wrap
                              (IntKind.i64.wrap
                                  (IntKind.i64.wrap
                                      (IntKind.i64.wrap
                                          (IntKind.i64.wrap (IntKind.i64.wrap (IntKind.i64.wrap (x4 + 1) + 1) + 1) +
                                            1) +
                                        1) +
                                    1) +
                                1)))
                          (setF (0 + x20.toNat) 6
                            (T.int IntKind.i64
                              (IntKind.i64.wrap
                                (IntKind.i64.wrap
                                    (IntKind.i64.wrap
                                        (IntKind.i64.wrap (IntKind.i64.wrap (IntKind.i64.wrap (x4 + 1) + 1) + 1) + 1) +
                                      1) +
                                  1)))
                            (setF (0 + x20.toNat) 5
                              (T.int IntKind.i64
                                (IntKind.i64.wrap
                                  (IntKind.i64.wrap
                                      (IntKind.i64.wrap (IntKind.i64.wrap (IntKind.i64.wrap (x4 + 1) + 1) + 1) + 1) +
                                    1)))
                              (setF (0 + x20.toNat) 4
                                (T.int IntKind.i64
                                  (IntKind.i64.wrap
                                    (IntKind.i64.wrap (IntKind.i64.wrap (IntKind.i64.wrap (x4 + 1) + 1) + 1) + 1)))
                                (setF (0 + x20.toNat) 3
                                  (T.int IntKind.i64
                                    (IntKind.i64.wrap (IntKind.i64.wrap (IntKind.i64.wrap (x4 + 1) + 1) + 1)))
                                  (setF (0 + x20.toNat) 2
                                    (T.int IntKind.i64 (IntKind.i64.wrap (IntKind.i64.wrap (x4 + 1) + 1)))
                                    (setF (0 + x20.toNat) 1 (T.int IntKind.i64 (IntKind.i64.wrap (x4 + 1)))
                                      (setF (0 + x20.toNat) 0 (T.int IntKind.i64 x4) fx2)))))))))))
                  (0 + x20.toNat) (11 + 0)).ln)
            (setF (0 + x20.toNat) 10 (T.int IntKind.i64 (IntKind.i64.wrap (f_ctLI r1 + 1)))
              (setF (0 + x20.toNat) 9 (T.int IntKind.i64 (f_ctLI r1))
                (setF (0 + x20.toNat) (8 + 0) (T.arr 1 (f_mkLI r1).length (atL rowI (f_mkLI r1)))
                  (setF (0 + x20.toNat) (8 + 0)
                    (T.lent 1
                      (setF (0 + x20.toNat) 7
                          (T.int IntKind.i64
                            (IntKind.i64.wrap
                              (IntKind.i64.wrap
                                  (IntKind.i64.wrap
                                      (IntKind.i64.wrap
                                          (IntKind.i64.wrap (IntKind.i64.wrap (IntKind.i64.wrap (x4 + 1) + 1) + 1) +
                                            1) +
                                        1) +
                                    1) +
                                1)))
                          (setF (0 + x20.toNat) 6
                            (T.int IntKind.i64
                              (IntKind.i64.wrap
                                (IntKind.i64.wrap
                                    (IntKind.i64.wrap
                                        (IntKind.i64.wrap (IntKind.i64.wrap (IntKind.i64.wrap (x4 + 1) + 1) + 1) + 1) +
                                      1) +
                                  1)))
                            (setF (0 + x20.toNat) 5
                              (T.int IntKind.i64
                                (IntKind.i64.wrap
                                  (IntKind.i64.wrap
                                      (IntKind.i64.wrap (IntKind.i64.wrap (IntKind.i64.wrap (x4 + 1) + 1) + 1) + 1) +
                                    1)))
                              (setF (0 + x20.toNat) 4
                                (T.int IntKind.i64
                                  (IntKind.i64.wrap
                                    (IntKind.i64.wrap (IntKind.i64.wrap (IntKind.i64.wrap (x4 + 1) + 1) + 1) + 1)))
                                (setF (0 + x20.toNat) 3
                                  (T.int IntKind.i64
                                    (IntKind.i64.wrap (IntKind.i64.wrap (IntKind.i64.wrap (x4 + 1) + 1) + 1)))
                                  (setF (0 + x20.toNat) 2
                                    (T.int IntKind.i64 (IntKind.i64.wrap (IntKind.i64.wrap (x4 + 1) + 1)))
                                    (setF (0 + x20.toNat) 1 (T.int IntKind.i64 (IntKind.i64.wrap (x4 + 1)))
                                      (setF (0 + x20.toNat) 0 (T.int IntKind.i64 x4) fx2)))))))
                          (0 + x20.toNat) (8 + 0)).ln)
                    (setF (0 + x20.toNat) 7
                      (T.int IntKind.i64
                        (IntKind.i64.wrap
                          (IntKind.i64.wrap
                              (IntKind.i64.wrap
                                  (IntKind.i64.wrap
                                      (IntKind.i64.wrap (IntKind.i64.wrap (IntKind.i64.wrap (x4 + 1) + 1) + 1) + 1) +
                                    1) +
                                1) +
                            1)))
                      (setF (0 + x20.toNat) 6
                        (T.int IntKind.i64
                          (IntKind.i64.wrap
                            (IntKind.i64.wrap
                                (IntKind.i64.wrap
                                    (IntKind.i64.wrap (IntKind.i64.wrap (IntKind.i64.wrap (x4 + 1) + 1) + 1) + 1) +
                                  1) +
                              1)))
                        (setF (0 + x20.toNat) 5
                          (T.int IntKind.i64
                            (IntKind.i64.wrap
                              (IntKind.i64.wrap
                                  (IntKind.i64.wrap (IntKind.i64.wrap (IntKind.i64.wrap (x4 + 1) + 1) + 1) + 1) +
                                1)))
                          (setF (0 + x20.toNat) 4
                            (T.int IntKind.i64
                              (IntKind.i64.wrap
                                (IntKind.i64.wrap (IntKind.i64.wrap (IntKind.i64.wrap (x4 + 1) + 1) + 1) + 1)))
                            (setF (0 + x20.toNat) 3
                              (T.int IntKind.i64
                                (IntKind.i64.wrap (IntKind.i64.wrap (IntKind.i64.wrap (x4 + 1) + 1) + 1)))
                              (setF (0 + x20.toNat) 2
                                (T.int IntKind.i64 (IntKind.i64.wrap (IntKind.i64.wrap (x4 + 1) + 1)))
                                (setF (0 + x20.toNat) 1 (T.int IntKind.i64 (IntKind.i64.wrap (x4 + 1)))
                                  (setF (0 + x20.toNat) 0 (T.int IntKind.i64 x4) fx2)))))))))))))
          (0 + x20.toNat) (12 + 0)).ln.beq
    (f_mkLI r3).length &&
  ((0 + x20.toNat).blt nx2 && true && true)) <|
  K .normal (st_mkNdS_1 l k (f_ctLI r3) (IntKind.i64.wrap (x20 + 1)) (nx2) (setF (0 + x20.toNat) (12 + 0) (T.arr 1 (f_mkLI r3).length (atL rowI (f_mkLI r3)))
  (setF (0 + x20.toNat) (12 + 0)
    (T.lent 1
      (setF (0 + x20.toNat) (11 + 0) (T.arr 3 (f_mkThS r2).length (atL Th.cs (f_mkThS r2)))
          (setF (0 + x20.toNat) (11 + 0)
            (T.lent 3
              (setF (0 + x20.toNat) 10 (T.int IntKind.i64 (IntKind.i64.wrap (f_ctLI r1 + 1)))
                  (setF (0 + x20.toNat) 9 (T.int IntKind.i64 (f_ctLI r1))
                    (setF (0 + x20.toNat) (8 + 0) (T.arr 1 (f_mkLI r1).length (atL rowI (f_mkLI r1)))
                      (setF (0 + x20.toNat) (8 + 0)
                        (T.lent 1
                          (setF (0 + x20.toNat) 7
                              (T.int IntKind.i64
                                (IntKind.i64.wrap
                                  (IntKind.i64.wrap
                                      (IntKind.i64.wrap
                                          (IntKind.i64.wrap
                                              (IntKind.i64.wrap (IntKind.i64.wrap (IntKind.i64.wrap (x4 + 1) + 1) + 1) +
                                                1) +
                                            1) +
                                        1) +
                                    1)))
                              (setF (0 + x20.toNat) 6
                                (T.int IntKind.i64
                                  (IntKind.i64.wrap
                                    (IntKind.i64.wrap
                                        (IntKind.i64.wrap
                                            (IntKind.i64.wrap (IntKind.i64.wrap (IntKind.i64.wrap (x4 + 1) + 1) + 1) +
                                              1) +
                                          1) +
                                      1)))
                                (setF (0 + x20.toNat) 5
                                  (T.int IntKind.i64
                                    (IntKind.i64.wrap
                                      (IntKind.i64.wrap
                                          (IntKind.i64.wrap (IntKind.i64.wrap (IntKind.i64.wrap (x4 + 1) + 1) + 1) +
                                            1) +
                                        1)))
                                  (setF (0 + x20.toNat) 4
                                    (T.int IntKind.i64
                                      (IntKind.i64.wrap
                                        (IntKind.i64.wrap (IntKind.i64.wrap (IntKind.i64.wrap (x4 + 1) + 1) + 1) + 1)))
                                    (setF (0 + x20.toNat) 3
                                      (T.int IntKind.i64
                                        (IntKind.i64.wrap (IntKind.i64.wrap (IntKind.i64.wrap (x4 + 1) + 1) + 1)))
                                      (setF (0 + x20.toNat) 2
                                        (T.int IntKind.i64 (IntKind.i64.wrap (IntKind.i64.wrap (x4 + 1) + 1)))
                                        (setF (0 + x20.toNat) 1 (T.int IntKind.i64 (IntKind.i64.wrap (x4 + 1)))
                                          (setF (0 + x20.toNat) 0 (T.int IntKind.i64 x4) fx2)))))))
                              (0 + x20.toNat) (8 + 0)).ln)
                        (setF (0 + x20.toNat) 7
                          (T.int IntKind.i64
                            (IntKind.i64.wrap
                              (IntKind.i64.wrap
                                  (IntKind.i64.wrap
                                      (IntKind.i64.wrap
                                          (IntKind.i64.wrap (IntKind.i64.wrap (IntKind.i64.wrap (x4 + 1) + 1) + 1) +
                                            1) +
                                        1) +
                                    1) +
                                1)))
                          (setF (0 + x20.toNat) 6
                            (T.int IntKind.i64
                              (IntKind.i64.wrap
                                (IntKind.i64.wrap
                                    (IntKind.i64.wrap
                                        (IntKind.i64.wrap (IntKind.i64.wrap (IntKind.i64.wrap (x4 + 1) + 1) + 1) + 1) +
                                      1) +
                                  1)))
                            (setF (0 + x20.toNat) 5
                              (T.int IntKind.i64
                                (IntKind.i64.wrap
                                  (IntKind.i64.wrap
                                      (IntKind.i64.wrap (IntKind.i64.wrap (IntKind.i64.wrap (x4 + 1) + 1) + 1) + 1) +
                                    1)))
                              (setF (0 + x20.toNat) 4
                                (T.int IntKind.i64
                                  (IntKind.i64.wrap
                                    (IntKind.i64.wrap (IntKind.i64.wrap (IntKind.i64.wrap (x4 + 1) + 1) + 1) + 1)))
                                (setF (0 + x20.toNat) 3
                                  (T.int IntKind.i64
                                    (IntKind.i64.wrap (IntKind.i64.wrap (IntKind.i64.wrap (x4 + 1) + 1) + 1)))
                                  (setF (0 + x20.toNat) 2
                                    (T.int IntKind.i64 (IntKind.i64.wrap (IntKind.i64.wrap (x4 + 1) + 1)))
                                    (setF (0 + x20.toNat) 1 (T.int IntKind.i64 (IntKind.i64.wrap (x4 + 1)))
                                      (setF (0 + x20.toNat) 0 (T.int IntKind.i64 x4) fx2)))))))))))
                  (0 + x20.toNat) (11 + 0)).ln)
            (setF (0 + x20.toNat) 10 (T.int IntKind.i64 (IntKind.i64.wrap (f_ctLI r1 + 1)))
              (setF (0 + x20.toNat) 9 (T.int IntKind.i64 (f_ctLI r1))
                (setF (0 + x20.toNat) (8 + 0) (T.arr 1 (f_mkLI r1).length (atL rowI (f_mkLI r1)))
                  (setF (0 + x20.toNat) (8 + 0)
                    (T.lent 1
                      (setF (0 + x20.toNat) 7
                          (T.int IntKind.i64
                            (IntKind.i64.wrap
                              (IntKind.i64.wrap
                                  (IntKind.i64.wrap
                                      (IntKind.i64.wrap
                                          (IntKind.i64.wrap (IntKind.i64.wrap (IntKind.i64.wrap (x4 + 1) + 1) + 1) +
                                            1) +
                                        1) +
                                    1) +
                                1)))
                          (setF (0 + x20.toNat) 6
                            (T.int IntKind.i64
                              (IntKind.i64.wrap
                                (IntKind.i64.wrap
                                    (IntKind.i64.wrap
                                        (IntKind.i64.wrap (IntKind.i64.wrap (IntKind.i64.wrap (x4 + 1) + 1) + 1) + 1) +
                                      1) +
                                  1)))
                            (setF (0 + x20.toNat) 5
                              (T.int IntKind.i64
                                (IntKind.i64.wrap
                                  (IntKind.i64.wrap
                                      (IntKind.i64.wrap (IntKind.i64.wrap (IntKind.i64.wrap (x4 + 1) + 1) + 1) + 1) +
                                    1)))
                              (setF (0 + x20.toNat) 4
                                (T.int IntKind.i64
                                  (IntKind.i64.wrap
                                    (IntKind.i64.wrap (IntKind.i64.wrap (IntKind.i64.wrap (x4 + 1) + 1) + 1) + 1)))
                                (setF (0 + x20.toNat) 3
                                  (T.int IntKind.i64
                                    (IntKind.i64.wrap (IntKind.i64.wrap (IntKind.i64.wrap (x4 + 1) + 1) + 1)))
                                  (setF (0 + x20.toNat) 2
                                    (T.int IntKind.i64 (IntKind.i64.wrap (IntKind.i64.wrap (x4 + 1) + 1)))
                                    (setF (0 + x20.toNat) 1 (T.int IntKind.i64 (IntKind.i64.wrap (x4 + 1)))
                                      (setF (0 + x20.toNat) 0 (T.int IntKind.i64 x4) fx2)))))))
                          (0 + x20.toNat) (8 + 0)).ln)
                    (setF (0 + x20.toNat) 7
                      (T.int IntKind.i64
                        (IntKind.i64.wrap
                          (IntKind.i64.wrap
                              (IntKind.i64.wrap
                                  (IntKind.i64.wrap
                                      (IntKind.i64.wrap (IntKind.i64.wrap (IntKind.i64.wrap (x4 + 1) + 1) + 1) + 1) +
                                    1) +
                                1) +
                            1)))
                      (setF (0 + x20.toNat) 6
                        (T.int IntKind.i64
                          (IntKind.i64.wrap
                            (IntKind.i64.wrap
                                (IntKind.i64.wrap
                                    (IntKind.i64.wrap (IntKind.i64.wrap (IntKind.i64.wrap (x4 + 1) + 1) + 1) + 1) +
                                  1) +
                              1)))
                        (setF (0 + x20.toNat) 5
                          (T.int IntKind.i64
                            (IntKind.i64.wrap
                              (IntKind.i64.wrap
                                  (IntKind.i64.wrap (IntKind.i64.wrap (IntKind.i64.wrap (x4 + 1) + 1) + 1) + 1) +
                                1)))
                          (setF (0 + x20.toNat) 4
                            (T.int IntKind.i64
                              (IntKind.i64.wrap
                                (IntKind.i64.wrap (IntKind.i64.wrap (IntKind.i64.wrap (x4 + 1) + 1) + 1) + 1)))
                            (setF (0 + x20.toNat) 3
                              (T.int IntKind.i64
                                (IntKind.i64.wrap (IntKind.i64.wrap (IntKind.i64.wrap (x4 + 1) + 1) + 1)))
                              (setF (0 + x20.toNat) 2
                                (T.int IntKind.i64 (IntKind.i64.wrap (IntKind.i64.wrap (x4 + 1) + 1)))
                                (setF (0 + x20.toNat) 1 (T.int IntKind.i64 (IntKind.i64.wrap (x4 + 1)))
                                  (setF (0 + x20.toNat) 0 (T.int IntKind.i64 x4) fx2)))))))))))))
          (0 + x20.toNat) (12 + 0)).ln)
    (setF (0 + x20.toNat) (11 + 0) (T.arr 3 (f_mkThS r2).length (atL Th.cs (f_mkThS r2)))
      (setF (0 + x20.toNat) (11 + 0)
        (T.lent 3
          (setF (0 + x20.toNat) 10 (T.int IntKind.i64 (IntKind.i64.wrap (f_ctLI r1 + 1)))
              (setF (0 + x20.toNat) 9 (T.int IntKind.i64 (f_ctLI r1))
                (setF (0 + x20.toNat) (8 + 0) (T.arr 1 (f_mkLI r1).length (atL rowI (f_mkLI r1)))
                  (setF (0 + x20.toNat) (8 + 0)
                    (T.lent 1
                      (setF (0 + x20.toNat) 7
                          (T.int IntKind.i64
                            (IntKind.i64.wrap
                              (IntKind.i64.wrap
                                  (IntKind.i64.wrap
                                      (IntKind.i64.wrap
                                          (IntKind.i64.wrap (IntKind.i64.wrap (IntKind.i64.wrap (x4 + 1) + 1) + 1) +
                                            1) +
                                        1) +
                                    1) +
                                1)))
                          (setF (0 + x20.toNat) 6
                            (T.int IntKind.i64
                              (IntKind.i64.wrap
                                (IntKind.i64.wrap
                                    (IntKind.i64.wrap
                                        (IntKind.i64.wrap (IntKind.i64.wrap (IntKind.i64.wrap (x4 + 1) + 1) + 1) + 1) +
                                      1) +
                                  1)))
                            (setF (0 + x20.toNat) 5
                              (T.int IntKind.i64
                                (IntKind.i64.wrap
                                  (IntKind.i64.wrap
                                      (IntKind.i64.wrap (IntKind.i64.wrap (IntKind.i64.wrap (x4 + 1) + 1) + 1) + 1) +
                                    1)))
                              (setF (0 + x20.toNat) 4
                                (T.int IntKind.i64
                                  (IntKind.i64.wrap
                                    (IntKind.i64.wrap (IntKind.i64.wrap (IntKind.i64.wrap (x4 + 1) + 1) + 1) + 1)))
                                (setF (0 + x20.toNat) 3
                                  (T.int IntKind.i64
                                    (IntKind.i64.wrap (IntKind.i64.wrap (IntKind.i64.wrap (x4 + 1) + 1) + 1)))
                                  (setF (0 + x20.toNat) 2
                                    (T.int IntKind.i64 (IntKind.i64.wrap (IntKind.i64.wrap (x4 + 1) + 1)))
                                    (setF (0 + x20.toNat) 1 (T.int IntKind.i64 (IntKind.i64.wrap (x4 + 1)))
                                      (setF (0 + x20.toNat) 0 (T.int IntKind.i64 x4) fx2)))))))
                          (0 + x20.toNat) (8 + 0)).ln)
                    (setF (0 + x20.toNat) 7
                      (T.int IntKind.i64
                        (IntKind.i64.wrap
                          (IntKind.i64.wrap
                              (IntKind.i64.wrap
                                  (IntKind.i64.wrap
                                      (IntKind.i64.wrap (IntKind.i64.wrap (IntKind.i64.wrap (x4 + 1) + 1) + 1) + 1) +
                                    1) +
                                1) +
                            1)))
                      (setF (0 + x20.toNat) 6
                        (T.int IntKind.i64
                          (IntKind.i64.wrap
                            (IntKind.i64.wrap
                                (IntKind.i64.wrap
                                    (IntKind.i64.wrap (IntKind.i64.wrap (IntKind.i64.wrap (x4 + 1) + 1) + 1) + 1) +
                                  1) +
                              1)))
                        (setF (0 + x20.toNat) 5
                          (T.int IntKind.i64
                            (IntKind.i64.wrap
                              (IntKind.i64.wrap
                                  (IntKind.i64.wrap (IntKind.i64.wrap (IntKind.i64.wrap (x4 + 1) + 1) + 1) + 1) +
                                1)))
                          (setF (0 + x20.toNat) 4
                            (T.int IntKind.i64
                              (IntKind.i64.wrap
                                (IntKind.i64.wrap (IntKind.i64.wrap (IntKind.i64.wrap (x4 + 1) + 1) + 1) + 1)))
                            (setF (0 + x20.toNat) 3
                              (T.int IntKind.i64
                                (IntKind.i64.wrap (IntKind.i64.wrap (IntKind.i64.wrap (x4 + 1) + 1) + 1)))
                              (setF (0 + x20.toNat) 2
                                (T.int IntKind.i64 (IntKind.i64.wrap (IntKind.i64.wrap (x4 + 1) + 1)))
                                (setF (0 + x20.toNat) 1 (T.int IntKind.i64 (IntKind.i64.wrap (x4 + 1)))
                                  (setF (0 + x20.toNat) 0 (T.int IntKind.i64 x4) fx2)))))))))))
              (0 + x20.toNat) (11 + 0)).ln)
        (setF (0 + x20.toNat) 10 (T.int IntKind.i64 (IntKind.i64.wrap (f_ctLI r1 + 1)))
          (setF (0 + x20.toNat) 9 (T.int IntKind.i64 (f_ctLI r1))
            (setF (0 + x20.toNat) (8 + 0) (T.arr 1 (f_mkLI r1).length (atL rowI (f_mkLI r1)))
              (setF (0 + x20.toNat) (8 + 0)
                (T.lent 1
                  (setF (0 + x20.toNat) 7
                      (T.int IntKind.i64
                        (IntKind.i64.wrap
                          (IntKind.i64.wrap
                              (IntKind.i64.wrap
                                  (IntKind.i64.wrap
                                      (IntKind.i64.wrap (IntKind.i64.wrap (IntKind.i64.wrap (x4 + 1) + 1) + 1) + 1) +
                                    1) +
                                1) +
                            1)))
                      (setF (0 + x20.toNat) 6
                        (T.int IntKind.i64
                          (IntKind.i64.wrap
                            (IntKind.i64.wrap
                                (IntKind.i64.wrap
                                    (IntKind.i64.wrap (IntKind.i64.wrap (IntKind.i64.wrap (x4 + 1) + 1) + 1) + 1) +
                                  1) +
                              1)))
                        (setF (0 + x20.toNat) 5
                          (T.int IntKind.i64
                            (IntKind.i64.wrap
                              (IntKind.i64.wrap
                                  (IntKind.i64.wrap (IntKind.i64.wrap (IntKind.i64.wrap (x4 + 1) + 1) + 1) + 1) +
                                1)))
                          (setF (0 + x20.toNat) 4
                            (T.int IntKind.i64
                              (IntKind.i64.wrap
                                (IntKind.i64.wrap (IntKind.i64.wrap (IntKind.i64.wrap (x4 + 1) + 1) + 1) + 1)))
                            (setF (0 + x20.toNat) 3
                              (T.int IntKind.i64
                                (IntKind.i64.wrap (IntKind.i64.wrap (IntKind.i64.wrap (x4 + 1) + 1) + 1)))
                              (setF (0 + x20.toNat) 2
                                (T.int IntKind.i64 (IntKind.i64.wrap (IntKind.i64.wrap (x4 + 1) + 1)))
                                (setF (0 + x20.toNat) 1 (T.int IntKind.i64 (IntKind.i64.wrap (x4 + 1)))
                                  (setF (0 + x20.toNat) 0 (T.int IntKind.i64 x4) fx2)))))))
                      (0 + x20.toNat) (8 + 0)).ln)
                (setF (0 + x20.toNat) 7
                  (T.int IntKind.i64
                    (IntKind.i64.wrap
                      (IntKind.i64.wrap
                          (IntKind.i64.wrap
                              (IntKind.i64.wrap
                                  (IntKind.i64.wrap (IntKind.i64.wrap (IntKind.i64.wrap (x4 + 1) + 1) + 1) + 1) +
                                1) +
                            1) +
                        1)))
                  (setF (0 + x20.toNat) 6
                    (T.int IntKind.i64
                      (IntKind.i64.wrap
                        (IntKind.i64.wrap
                            (IntKind.i64.wrap
                                (IntKind.i64.wrap (IntKind.i64.wrap (IntKind.i64.wrap (x4 + 1) + 1) + 1) + 1) +
                              1) +
                          1)))
                    (setF (0 + x20.toNat) 5
                      (T.int IntKind.i64
                        (IntKind.i64.wrap
                          (IntKind.i64.wrap
                              (IntKind.i64.wrap (IntKind.i64.wrap (IntKind.i64.wrap (x4 + 1) + 1) + 1) + 1) +
                            1)))
                      (setF (0 + x20.toNat) 4
                        (T.int IntKind.i64
                          (IntKind.i64.wrap
                            (IntKind.i64.wrap (IntKind.i64.wrap (IntKind.i64.wrap (x4 + 1) + 1) + 1) + 1)))
                        (setF (0 + x20.toNat) 3
                          (T.int IntKind.i64 (IntKind.i64.wrap (IntKind.i64.wrap (IntKind.i64.wrap (x4 + 1) + 1) + 1)))
                          (setF (0 + x20.toNat) 2 (T.int IntKind.i64 (IntKind.i64.wrap (IntKind.i64.wrap (x4 + 1) + 1)))
                            (setF (0 + x20.toNat) 1 (T.int IntKind.i64 (IntKind.i64.wrap (x4 + 1)))
                              (setF (0 + x20.toNat) 0 (T.int IntKind.i64 x4) fx2)))))))))))))))))
 else
 K (.exit 0) (ex_mkNdS_1_1 l k x4 x20 nx2 fx2)) := by kernel_rfl
theorem post_mkNdS_1_1 (l : List Nd) (k : Int) (x4 : Int) (x20 : Int) (nx2 : Nat) (fx2 : Nat → Nat → T) (n : Nat) : contAt prog (tabS [(i_mkLI, e_mkLI), (i_mkThS, e_mkThS)]) kp_mkNdS F_mkNdS ts_mkNdS [1, 0, 1, 0] [] n (.exit 0) (ex_mkNdS_1_1 l k x4 x20 nx2 fx2) = (
 some ([(false, [.tr true (T.int IntKind.i64 x4)])], [(false, [.tr true (.arr (13) (nx2) (fx2))]), (false, [])])) := by kernel_rfl
theorem pre_mkNdS (l : List Nd) (k : Int) (n : Nat) : body prog (tabS [(i_mkLI, e_mkLI), (i_mkThS, e_mkThS)]) kp_mkNdS n F_mkNdS [lT (eL 13 Nd.cs l), aI k] = (
 loopAt prog (tabS [(i_mkLI, e_mkLI), (i_mkThS, e_mkThS)]) kp_mkNdS F_mkNdS [1, 0, 1, 0] n n (st_mkNdS_1 l k (k) (0) (T.ln (eL 13 Nd.cs l)) (T.fn (eL 13 Nd.cs l))) (contAt prog (tabS [(i_mkLI, e_mkLI), (i_mkThS, e_mkThS)]) kp_mkNdS F_mkNdS ts_mkNdS [1, 0, 1, 0] [] n)) := by kernel_rfl
theorem body_mkNdS (l : List Nd) (k : Int) (h : okh_NdS (l, k)) : body prog (tabS [(i_mkLI, e_mkLI), (i_mkThS, e_mkThS)]) kp_mkNdS (l.length + 1) F_mkNdS (eam_NdS (l, k)) = some ([oT (.int .i64 (f_ctNdS (l, k)))], [oT (eL 13 Nd.cs (f_mkNdS (l, k))), nul]) := by
  obtain ⟨hl, hk0, hk1⟩ := h
  have hbm := bm
  dsimp only at hl hk0 hk1
  have hl' : l.length ≤ BM := hl.1
  unfold eam_NdS f_ctNdS f_mkNdS
  dsimp only
  rw [pre_mkNdS]
  have hst : st_mkNdS_1 l k k 0 l.length (atL Nd.cs l) = (fun i : Nat => st_mkNdS_1 l k (k + cntL c1_NdS (l.take i)) (i : Nat) l.length (atL Nd.cs (mkd m1_NdS c1_NdS l k i))) 0 := by simp [cntL, mkd_zero]
  refine Eq.trans (congrArg (fun s => loopAt prog _ _ _ _ _ _ s _) hst) ?_
  rw [forLoop l.length (fun i : Nat => st_mkNdS_1 l k (k + cntL c1_NdS (l.take i)) (i : Nat) l.length (atL Nd.cs (mkd m1_NdS c1_NdS l k i))) (ex_mkNdS_1_1 l k (k + cntL c1_NdS l) l.length l.length (atL Nd.cs (mk_NdS l k))) 0 (fun i K hi => ?_) (fun K => ?_) _ (Nat.le_refl _)]
  · rw [post_mkNdS_1_1]
    have := markL_len m1_NdS c1_NdS l k
    rw [eL_T, show (mk_NdS l k).length = l.length from this]
    rfl
  · have hx := List.getElem?_eq_getElem hi
    obtain ⟨x, hxe⟩ : ∃ x, x = l[i] := ⟨_, rfl⟩
    rw [← hxe] at hx
    have hxm : x ∈ l := List.mem_of_getElem? hx
    have hg := mkd_get m1_NdS c1_NdS l k hx
    have hc := cntL_take c1_NdS l hx
    have hcl := cntL_le c1_NdS l (i + 1)
    have hcx : c1_NdS x = 1 + 1 + 1 + 1 + 1 + 1 + 1 + 1 + cntL c1_LI x.chunks + 1 + 1 + cntL c1_ThS x.things + cntL c1_LI x.tags := rfl
    have h0 := (hl.2 _ hxm).1
    have h1 := (hl.2 _ hxm).2.1
    have h2 := (hl.2 _ hxm).2.2
    rw [hc, round_mkNdS_1]
    have hms := mkd_set m1_NdS c1_NdS l k hx
    have hml : i < (mkd m1_NdS c1_NdS l k i).length := by rw [mkd_len _ _ _ _ (by omega)]; exact hi
    obtain ⟨k0, hk⟩ : ∃ k0, k0 = k + (cntL c1_NdS (l.take i) : Int) := ⟨_, rfl⟩
    have hk2 : k + ((cntL c1_NdS (l.take i) + c1_NdS x : Nat) : Int) = k0 + 1 + 1 + 1 + 1 + 1 + 1 + 1 + 1 + cntL c1_LI x.chunks + 1 + 1 + cntL c1_ThS x.things + cntL c1_LI x.tags := by omega
    rw [hk2]
    rw [← hk] at hms ⊢
    have g0 : okh_LI (x.chunks, k0 + 1 + 1 + 1 + 1 + 1 + 1 + 1 + 1) := ⟨h0, by dsimp only; omega, by dsimp only; omega⟩
    have g1 : okh_ThS (x.things, k0 + 1 + 1 + 1 + 1 + 1 + 1 + 1 + 1 + cntL c1_LI x.chunks + 1 + 1) := ⟨h1, by dsimp only; omega, by dsimp only; omega⟩
    have g2 : okh_LI (x.tags, k0 + 1 + 1 + 1 + 1 + 1 + 1 + 1 + 1 + cntL c1_LI x.chunks + 1 + 1 + cntL c1_ThS x.things) := ⟨h2, by dsimp only; omega, by dsimp only; omega⟩
    simp (disch := omega) only [lt_d, ge0_d, Int.toNat_natCast, blt_d, ble_self, beq_self, decide_true, cond_true, Bool.and_self, Bool.and_true, Bool.true_and, gd_true, Nat.zero_add, List.getD_cons_zero, List.getD_cons_succ, isI_int, toI_int, isB_bool, toB_bool, eL_T, arr_ln, arr_fn, arr_wd, arr_is, arr_get, hi, atL_of hg, Nd.cs, wrapI, wrapS, setF_d, and_self, if_true, if_false, true_and, false_and, and_true, and_false, Nat.add_zero, Nat.reduceEqDiff, Nat.reduceAdd, entK_of (dm_mkLI g0) (iv_mkLI g0), len_mkLI, d_mkLI, d_ctLI, entK_of (dm_mkThS g1) (iv_mkThS g1), len_mkThS, d_mkThS, d_ctThS, entK_of (dm_mkLI g2) (iv_mkLI g2), len_mkLI, d_mkLI, d_ctLI]
    rw [← hms]
    congr 2
    refine set_atL hml fun j' k' => ?_
    by_cases e : j' = i
    · subst e
      rcases k' with _ | _ | _ | _ | _ | _ | _ | _ | _ | _ | _ | _ | _ | k' <;> simp [setF_d, Nd.cs, m1_NdS, atL_of hg, eL_T, len_mkLI, len_mkThS]
    · simp [setF_d, e]
  · rw [round_mkNdS_1, mkd_all]
    simp only [lt_d, Nat.lt_irrefl, decide_false, cond_false, List.take_length]
    rfl
theorem s_mkNdS : EntOk prog i_mkNdS e_mkNdS := ent_ok eam_NdS_inj fun x hx =>
  body_sound (φ := (tabS [(i_mkLI, e_mkLI), (i_mkThS, e_mkThS)])) (tabS_cons s_mkLI (tabS_cons s_mkThS tabS_nil)) mixed (kp := kp_mkNdS) (n := x.1.length + 1) func92 (c := bodyOf F_mkNdS) (by kernel_rfl) (body_mkNdS x.1 x.2 hx) (name_ok (by kernel_rfl))
theorem dm_mkNdS {l : List Nd} {k : Int} (h : okh_NdS (l, k)) : dom okh_NdS eam_NdS [(1, false, [C.tr true (T.arr 13 l.length (atL Nd.cs l))]), (0, false, [C.tr false (T.int IntKind.i64 k)])] = true := dom_ea (ea := eam_NdS) (x := (l, k)) h
theorem iv_mkNdS {l : List Nd} {k : Int} (h : okh_NdS (l, k)) : inv okh_NdS eam_NdS [(1, false, [C.tr true (T.arr 13 l.length (atL Nd.cs l))]), (0, false, [C.tr false (T.int IntKind.i64 k)])] = (l, k) := inv_ea eam_NdS_inj (x := (l, k)) h
theorem len_mkNdS (l : List Nd) (k : Int) : (mk_NdS l k).length = l.length := markL_len _ _ _ _
theorem d_mkNdS (l : List Nd) (k : Int) : f_mkNdS (l, k) = mk_NdS l k := rfl
theorem d_ctNdS (l : List Nd) (k : Int) : f_ctNdS (l, k) = k + cntL c1_NdS l := rfl
end Go.Mach.F
namespace Go.Mach.F
open Go Go.Mach Go.Proofs.Try
--=set_option maxRecDepth 100000
def i_mkPl : Nat := 91
noncomputable abbrev F_mkPl : Func := f91
def kp_mkPl : List (Nat × List Nat) := [(0, [4, 8, 9, 2]), (1, [4, 8, 9, 2]), (2, [4, 8, 9, 2]), (3, [4, 2]), (4, [16, 2])]
noncomputable def e_mkPl : Ent := inl [1, 0] prog (tabS [(i_mkLB, e_mkLB), (i_mkLI, e_mkLI)]) kp_mkPl 0 F_mkPl
theorem s_mkPl : EntOk prog i_mkPl e_mkPl := inl_ok (tabS_cons s_mkLB (tabS_cons s_mkLI tabS_nil)) mixed (c := bodyOf F_mkPl) func91 (by kernel_rfl) (name_ok (by kernel_rfl))
def i_mkWd : Nat := 26
noncomputable abbrev F_mkWd : Func := f26
def kp_mkWd : List (Nat × List Nat) := [(0, [4, 8, 9, 2]), (1, [4, 8, 9, 2]), (2, [4, 8, 9, 2]), (3, [4, 8, 9, 2]), (4, [4, 2]), (5, [16, 2])]
noncomputable def e_mkWd : Ent := inl [1, 0] prog (tabS [(i_mkPl, e_mkPl), (i_mkNdS, e_mkNdS), (i_mkWsS, e_mkWsS), (i_mkLI, e_mkLI)]) kp_mkWd 0 F_mkWd
theorem s_mkWd : EntOk prog i_mkWd e_mkWd := inl_ok (tabS_cons s_mkPl (tabS_cons s_mkNdS (tabS_cons s_mkWsS (tabS_cons s_mkLI tabS_nil)))) mixed (c := bodyOf F_mkWd) func26 (by kernel_rfl) (name_ok (by kernel_rfl))
end Go.Mach.F
namespace Go.Mach.F
open Go Go.Mach Go.Proofs.Try
theorem markL_idem {α : Type} (f : α → Int → α) (c : α → Nat) (hf : ∀ x k, f (f x k) k = f x k) (hc : ∀ x k, c (f x k) = c x) : ∀ (l : List α) (k : Int), markL f c (markL f c l k) k = markL f c l k
  | [], k => rfl
  | x :: l, k => by
    simp only [markL, hf, hc]
    rw [markL_idem f c hf hc l]
theorem cntL_mark {α : Type} (f : α → Int → α) (c : α → Nat) (hc : ∀ x k, c (f x k) = c x) : ∀ (l : List α) (k : Int), cntL c (markL f c l k) = cntL c l
  | [], k => rfl
  | x :: l, k => by
    simp only [markL, cntL, hc]
    rw [cntL_mark f c hc l]
theorem cntL_lin {α : Type} (c d : α → Nat) (A B : Nat) : ∀ l : List α, (∀ x ∈ l, c x ≤ A + B * d x) → cntL c l ≤ A * l.length + B * cntL d l
  | [], _ => by simp [cntL]
  | x :: l, h => by
    have h1 := h x (List.mem_cons_self ..)
    have h2 := cntL_lin c d A B l fun y hy => h y (List.mem_cons_of_mem _ hy)
    simp only [cntL, List.length_cons, Nat.mul_add, Nat.mul_one]
    omega
theorem cb_LI (l : List Int) : cntL c1_LI l ≤ 16 * n_LI l := by
  rw [ct_LI]
  unfold n_LI
  omega
theorem beq_mkLI (l : List Int) (k : Int) : Nat.beq l.length (mk_LI l k).length = true := by rw [len_mkLI]; simp only [beq_self]
theorem cb_LB (l : List UInt8) : cntL c1_LB l ≤ 16 * n_LB l := by
  rw [ct_LB]
  unfold n_LB
  omega
theorem beq_mkLB (l : List UInt8) (k : Int) : Nat.beq l.length (mk_LB l k).length = true := by rw [len_mkLB]; simp only [beq_self]
theorem mkmk_LB (l : List UInt8) (k : Int) : mk_LB (mk_LB l k) k = mk_LB l k := markL_idem m1_LB c1_LB (fun _ _ => rfl) (fun _ _ => rfl) l k
theorem ctmk_LB (l : List UInt8) (k : Int) : cntL c1_LB (mk_LB l k) = cntL c1_LB l := cntL_mark m1_LB c1_LB (fun _ _ => rfl) l k
theorem okqmk_LB {l : List UInt8} {k : Int} (h : okq_LB l) : okq_LB (mk_LB l k) := by unfold okq_LB; rw [len_mkLB]; exact h
theorem hdmk_LB (l : List UInt8) (k : Int) : f_hdLB (mk_LB l k, k) = k + cntL c1_LB l := by rw [y_hdLB (mkmk_LB l k).symm, ctmk_LB]
theorem cb_ThS (l : List Th) : cntL c1_ThS l ≤ 16 * n_ThS l := by
  have := cntL_lin c1_ThS (fun _ => 0) 3 0 l fun x _ => by show c1_ThS x ≤ _; unfold c1_ThS; omega
  unfold n_ThS
  omega
theorem cb_NdS (l : List Nd) : cntL c1_NdS l ≤ 16 * n_NdS l := by
  have := cntL_lin c1_NdS n1_NdS 10 16 l fun x _ => by have := cb_LI x.chunks; have := cb_ThS x.things; have := cb_LI x.tags; show c1_NdS x ≤ _; unfold c1_NdS n1_NdS; omega
  unfold n_NdS
  omega
theorem beq_mkNdS (l : List Nd) (k : Int) : Nat.beq l.length (mk_NdS l k).length = true := by rw [len_mkNdS]; simp only [beq_self]
theorem cb_WsS (l : List Ws) : cntL c1_WsS l ≤ 16 * n_WsS l := by
  have := cntL_lin c1_WsS n1_WsS 3 16 l fun x _ => by have := cb_LI x.tags; have := cb_LI x.chunks; show c1_WsS x ≤ _; unfold c1_WsS n1_WsS; omega
  unfold n_WsS
  omega
theorem beq_mkWsS (l : List Ws) (k : Int) : Nat.beq l.length (mk_WsS l k).length = true := by rw [len_mkWsS]; simp only [beq_self]
end Go.Mach.F
