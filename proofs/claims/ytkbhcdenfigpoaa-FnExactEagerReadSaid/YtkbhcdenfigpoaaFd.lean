/- Nodes and waste: the laws' copies, comparisons and sizes. Conditions: none. -/
import Derived.Test.YtkbhcdenfigpoaaFc
set_option linter.all false
namespace Go.Mach.F
open Go Go.Mach Go.Proofs.Try
--=set_option maxRecDepth 100000
theorem Nd.cs_inj (x y : Nd) (h : ∀ k, x.cs.getD k .hole = y.cs.getD k .hole) : x = y := by
  have h0 := h 0; have h1 := h 1; have h2 := h 2; have h3 := h 3; have h4 := h 4; have h5 := h 5; have h6 := h 6; have h7 := h 7; have h8 := h 8; have h9 := h 9; have h10 := h 10; have h11 := h 11; have h12 := h 12
  rcases x with ⟨x0, x1, x2, x3, x4, x5, x6, x7, x8, x9, x10, x11, x12⟩
  rcases y with ⟨y0, y1, y2, y3, y4, y5, y6, y7, y8, y9, y10, y11, y12⟩
  simp only [Nd.cs, List.getD_cons_zero, List.getD_cons_succ, T.int.injEq, T.bool.injEq, true_and] at h0 h1 h2 h3 h4 h5 h6 h7 h8 h9 h10 h11 h12
  replace h8 := eI_inj h8
  replace h11 := eL_inj Th.cs_inj h11
  replace h12 := eI_inj h12
  subst h0; subst h1; subst h2; subst h3; subst h4; subst h5; subst h6; subst h7; subst h8; subst h9; subst h10; subst h11; subst h12
  rfl
def i_toNd : Nat := 138
noncomputable abbrev F_toNd : Func := f138
def kp_toNd : List (Nat × List Nat) := [(0, [4, 5, 8, 9, 12, 13, 184]), (1, [4, 5, 8, 9, 12, 13, 184]), (2, [4, 5, 8, 9, 12, 13, 184]), (3, [4, 5, 8, 9, 12, 13, 184]), (4, [4, 5, 8, 9, 12, 13, 184]), (5, [4, 5, 8, 9, 12, 13, 184]), (6, [4, 5, 8, 9, 12, 13, 184]), (7, [4, 5, 8, 9, 12, 13, 184]), (8, [4, 5, 8, 9, 12, 13, 184]), (9, [4, 5, 8, 9, 12, 13, 184]), (10, [4, 5, 8, 9, 12, 13, 184]), (11, [4, 5, 8, 9, 12, 13, 184]), (12, [4, 5, 8, 9, 12, 13, 184]), (13, [4, 5, 8, 9, 12, 13, 184]), (14, [8, 9, 12, 13, 184]), (15, [8, 9, 12, 13, 184])]
noncomputable def e_toNd : Ent := inl [] prog (tabS [(i_toLI, e_toLI), (i_toThS, e_toThS)]) kp_toNd 0 F_toNd
theorem s_toNd : EntOk prog i_toNd e_toNd := inl_ok (tabS_cons s_toLI (tabS_cons s_toThS tabS_nil)) mixed (c := bodyOf F_toNd) func138 (by kernel_rfl) (name_ok (by kernel_rfl))
def i_eqNd : Nat := 140
noncomputable abbrev F_eqNd : Func := f140
def kp_eqNd : List (Nat × List Nat) := [(0, [8, 9, 12, 13]), (1, [8, 9, 12, 13, 36]), (2, [16]), (3, [8, 9, 12, 13, 56]), (4, [16]), (5, [8, 9, 12, 13, 76]), (6, [16]), (7, [8, 9, 12, 13, 96]), (8, [16]), (9, [8, 9, 12, 13, 116]), (10, [16]), (11, [8, 9, 12, 13, 136]), (12, [16]), (13, [8, 9, 12, 13, 156]), (14, [16]), (15, [8, 9, 12, 13, 176]), (16, [16]), (17, [8, 9, 12, 13, 200]), (18, [16]), (19, [8, 9, 12, 13, 220]), (20, [16]), (21, [8, 9, 12, 13, 240]), (22, [16]), (23, [8, 9, 12, 13, 264]), (24, [16]), (25, [288]), (26, [16]), (27, [16])]
noncomputable def e_eqNd : Ent := inl [] prog (tabS [(i_eqLI, e_eqLI), (i_eqThS, e_eqThS)]) kp_eqNd 0 F_eqNd
theorem s_eqNd : EntOk prog i_eqNd e_eqNd := inl_ok (tabS_cons s_eqLI (tabS_cons s_eqThS tabS_nil)) mixed (c := bodyOf F_eqNd) func140 (by kernel_rfl) (name_ok (by kernel_rfl))
def i_szNd : Nat := 136
noncomputable abbrev F_szNd : Func := f136
def kp_szNd : List (Nat × List Nat) := [(0, [4, 8, 9]), (1, [4, 8, 9]), (2, [4, 8, 9, 40]), (3, [16]), (4, [4, 8, 9]), (5, [4, 8, 9, 64]), (6, [16]), (7, [4]), (8, [4, 88]), (9, [16]), (10, [16])]
noncomputable def e_szNd : Ent := inl [] prog (tabS [(i_szLI, e_szLI), (i_szThS, e_szThS)]) kp_szNd 0 F_szNd
theorem s_szNd : EntOk prog i_szNd e_szNd := inl_ok (tabS_cons s_szLI (tabS_cons s_szThS tabS_nil)) mixed (c := bodyOf F_szNd) func136 (by kernel_rfl) (name_ok (by kernel_rfl))
def ok_NdS (l : List Nd) : Prop := l.length ≤ LM ∧ ∀ x ∈ l, ok_LI x.chunks ∧ ok_ThS x.things ∧ ok_LI x.tags
def ea_NdS (l : List Nd) : List Arg := [aT (eL 13 Nd.cs l)]
noncomputable def e_toNdS : Ent := ent [] ok_NdS ea_NdS (fun l => erT 1 (eL 13 Nd.cs l)) fun l => l
def okq_NdS (l : List Nd) : Prop := l.length ≤ BM ∧ ∀ x ∈ l, okq_LI x.chunks ∧ okq_ThS x.things ∧ okq_LI x.tags
def ok2_NdS (x : List Nd × List Nd) : Prop := okq_NdS x.1
def ea2_NdS (x : List Nd × List Nd) : List Arg := [aT (eL 13 Nd.cs x.1), aT (eL 13 Nd.cs x.2)]
def f_eqNdS (x : List Nd × List Nd) : Bool := decide (x.1 = x.2)
noncomputable def e_eqNdS : Ent := ent [] ok2_NdS ea2_NdS (erB 2) f_eqNdS
theorem ea_NdS_inj (x y : List Nd) (h : ea_NdS x = ea_NdS y) : x = y := by
  simp only [ea_NdS, aT, List.cons.injEq, Prod.mk.injEq, true_and, and_true, C.tr.injEq] at h
  exact eL_inj Nd.cs_inj h
theorem ea2_NdS_inj (x y : List Nd × List Nd) (h : ea2_NdS x = ea2_NdS y) : x = y := by
  simp only [ea2_NdS, aT, List.cons.injEq, Prod.mk.injEq, true_and, and_true, C.tr.injEq] at h
  exact Prod.ext (eL_inj Nd.cs_inj h.1) (eL_inj Nd.cs_inj h.2)
def i_toNdS : Nat := 66
noncomputable abbrev F_toNdS : Func := f66
def kp_toNdS : List (Nat × List Nat) := [(0, [0]), (1, [0, 12]), (2, [0, 12, 16]), (3, [0, 12, 16, 44]), (4, [0, 12, 16]), (5, [0, 12, 16]), (6, [8])]
def ts_toNdS : List Nat := [0]
def st_toNdS_1 (l : List Nd) (nx12 : Nat) (fx12 : Nat → Nat → T) (x16 : Int) : St := [(0, ⟨z0, [(false, [.tr false (eL 13 Nd.cs l)])]⟩), (12, ⟨z0, [(false, [.tr true (.arr (13) (nx12) (fx12))])]⟩), (16, ⟨z0, [(false, [.tr true (T.int IntKind.i64 x16)])]⟩)]
def ex_toNdS_1_1 (l : List Nd) (nx12 : Nat) (fx12 : Nat → Nat → T) (x16 : Int) : St := [(0, ⟨z0, [(false, [.tr false (eL 13 Nd.cs l)])]⟩), (12, ⟨z0, [(false, [.tr true (.arr (13) (nx12) (fx12))])]⟩), (16, ⟨z0, [(false, [.tr true (T.int IntKind.i64 x16)])]⟩), (44, ⟨z0, []⟩)]
theorem round_toNdS_1 (l : List Nd) (nx12 : Nat) (fx12 : Nat → Nat → T) (x16 : Int) (n : Nat) (K : Ex → St → Res) : roundAt prog (tabS [(i_toNd, e_toNd)]) kp_toNdS F_toNdS [1, 1, 0, 1, 0] n (st_toNdS_1 l nx12 fx12 x16) K = (
 bif decide (x16 < (↑l.length : Int)) then
  gd (decide (0 ≤ x16) && (x16.toNat.blt l.length && true)) <|
  gd (T.isI IntKind.i64 (atL Nd.cs l x16.toNat 0) && T.isI IntKind.i64 (atL Nd.cs l x16.toNat 1) &&
                      T.isI IntKind.i64 (atL Nd.cs l x16.toNat 2) &&
                    T.isI IntKind.i64 (atL Nd.cs l x16.toNat 3) &&
                  T.isI IntKind.i64 (atL Nd.cs l x16.toNat 4) &&
                T.isI IntKind.i64 (atL Nd.cs l x16.toNat 5) &&
              T.isI IntKind.i64 (atL Nd.cs l x16.toNat 6) &&
            T.isI IntKind.i64 (atL Nd.cs l x16.toNat 7) &&
          ((atL Nd.cs l x16.toNat 8).isArr && (atL Nd.cs l x16.toNat 8).wd.beq 1) &&
        T.isI IntKind.i64 (atL Nd.cs l x16.toNat 9) &&
      T.isI IntKind.i64 (atL Nd.cs l x16.toNat 10) &&
    ((atL Nd.cs l x16.toNat 11).isArr && (atL Nd.cs l x16.toNat 11).wd.beq 3) &&
  ((atL Nd.cs l x16.toNat 12).isArr && (atL Nd.cs l x16.toNat 12).wd.beq 1)) <|
  gd (dom ok_LI ea_LI [(0, false, [C.tr false (T.arr 1 (atL Nd.cs l x16.toNat 8).ln (atL Nd.cs l x16.toNat 8).fn)])]) <|
  gd ((inv ok_LI ea_LI
          [(0, false, [C.tr false (T.arr 1 (atL Nd.cs l x16.toNat 8).ln (atL Nd.cs l x16.toNat 8).fn)])]).length.ble
    (inv ok_LI ea_LI
        [(0, false, [C.tr false (T.arr 1 (atL Nd.cs l x16.toNat 8).ln (atL Nd.cs l x16.toNat 8).fn)])]).length &&
  true) <|
  gd (dom ok_ThS ea_ThS [(0, false, [C.tr false (T.arr 3 (atL Nd.cs l x16.toNat 11).ln (atL Nd.cs l x16.toNat 11).fn)])]) <|
  gd ((inv ok_ThS ea_ThS
          [(0, false, [C.tr false (T.arr 3 (atL Nd.cs l x16.toNat 11).ln (atL Nd.cs l x16.toNat 11).fn)])]).length.ble
    (inv ok_ThS ea_ThS
        [(0, false, [C.tr false (T.arr 3 (atL Nd.cs l x16.toNat 11).ln (atL Nd.cs l x16.toNat 11).fn)])]).length &&
  true) <|
  gd (dom ok_LI ea_LI [(0, false, [C.tr false (T.arr 1 (atL Nd.cs l x16.toNat 12).ln (atL Nd.cs l x16.toNat 12).fn)])]) <|
  gd ((inv ok_LI ea_LI
          [(0, false, [C.tr false (T.arr 1 (atL Nd.cs l x16.toNat 12).ln (atL Nd.cs l x16.toNat 12).fn)])]).length.ble
    (inv ok_LI ea_LI
        [(0, false, [C.tr false (T.arr 1 (atL Nd.cs l x16.toNat 12).ln (atL Nd.cs l x16.toNat 12).fn)])]).length &&
  true) <|
  gd ((inv ok_LI ea_LI
          [(0, false, [C.tr false (T.arr 1 (atL Nd.cs l x16.toNat 8).ln (atL Nd.cs l x16.toNat 8).fn)])]).length.ble
    (inv ok_LI ea_LI
        [(0, false, [C.tr false (T.arr 1 (atL Nd.cs l x16.toNat 8).ln (atL Nd.cs l x16.toNat 8).fn)])]).length &&
  true) <|
  gd ((inv ok_ThS ea_ThS
          [(0, false, [C.tr false (T.arr 3 (atL Nd.cs l x16.toNat 11).ln (atL Nd.cs l x16.toNat 11).fn)])]).length.ble
    (inv ok_ThS ea_ThS
        [(0, false, [C.tr false (T.arr 3 (atL Nd.cs l x16.toNat 11).ln (atL Nd.cs l x16.toNat 11).fn)])]).length &&
  true) <|
  gd ((inv ok_LI ea_LI
          [(0, false, [C.tr false (T.arr 1 (atL Nd.cs l x16.toNat 12).ln (atL Nd.cs l x16.toNat 12).fn)])]).length.ble
    (inv ok_LI ea_LI
        [(0, false, [C.tr false (T.arr 1 (atL Nd.cs l x16.toNat 12).ln (atL Nd.cs l x16.toNat 12).fn)])]).length &&
  true) <|
  gd ((inv ok_LI ea_LI
          [(0, false, [C.tr false (T.arr 1 (atL Nd.cs l x16.toNat 8).ln (atL Nd.cs l x16.toNat 8).fn)])]).length.ble
    (inv ok_LI ea_LI
        [(0, false, [C.tr false (T.arr 1 (atL Nd.cs l x16.toNat 8).ln (atL Nd.cs l x16.toNat 8).fn)])]).length &&
  true) <|
  gd ((inv ok_ThS ea_ThS
          [(0, false, [C.tr false (T.arr 3 (atL Nd.cs l x16.toNat 11).ln (atL Nd.cs l x16.toNat 11).fn)])]).length.ble
    (inv ok_ThS ea_ThS
        [(0, false, [C.tr false (T.arr 3 (atL Nd.cs l x16.toNat 11).ln (atL Nd.cs l x16.toNat 11).fn)])]).length &&
  true) <|
  gd ((inv ok_LI ea_LI
          [(0, false, [C.tr false (T.arr 1 (atL Nd.cs l x16.toNat 12).ln (atL Nd.cs l x16.toNat 12).fn)])]).length.ble
    (inv ok_LI ea_LI
        [(0, false, [C.tr false (T.arr 1 (atL Nd.cs l x16.toNat 12).ln (atL Nd.cs l x16.toNat 12).fn)])]).length &&
  true) <|
  gd (decide (0 ≤ x16) && (x16.toNat.blt nx12 && true)) <|
  gd ((inv ok_LI ea_LI
          [(0, false, [C.tr false (T.arr 1 (atL Nd.cs l x16.toNat 8).ln (atL Nd.cs l x16.toNat 8).fn)])]).length.ble
    (inv ok_LI ea_LI
        [(0, false, [C.tr false (T.arr 1 (atL Nd.cs l x16.toNat 8).ln (atL Nd.cs l x16.toNat 8).fn)])]).length &&
  true) <|
  gd ((inv ok_ThS ea_ThS
          [(0, false, [C.tr false (T.arr 3 (atL Nd.cs l x16.toNat 11).ln (atL Nd.cs l x16.toNat 11).fn)])]).length.ble
    (inv ok_ThS ea_ThS
        [(0, false, [C.tr false (T.arr 3 (atL Nd.cs l x16.toNat 11).ln (atL Nd.cs l x16.toNat 11).fn)])]).length &&
  true) <|
  gd ((inv ok_LI ea_LI
          [(0, false, [C.tr false (T.arr 1 (atL Nd.cs l x16.toNat 12).ln (atL Nd.cs l x16.toNat 12).fn)])]).length.ble
    (inv ok_LI ea_LI
        [(0, false, [C.tr false (T.arr 1 (atL Nd.cs l x16.toNat 12).ln (atL Nd.cs l x16.toNat 12).fn)])]).length &&
  true) <|
  gd ((0 + x16.toNat).blt nx12 && true && true) <|
  gd ((0 + x16.toNat).blt nx12 && true && true) <|
  gd ((0 + x16.toNat).blt nx12 && true && true) <|
  gd ((0 + x16.toNat).blt nx12 && true && true) <|
  gd ((0 + x16.toNat).blt nx12 && true && true) <|
  gd ((0 + x16.toNat).blt nx12 && true && true) <|
  gd ((0 + x16.toNat).blt nx12 && true && true) <|
  gd ((0 + x16.toNat).blt nx12 && true && true) <|
  gd ((0 + x16.toNat).blt nx12 && true && true) <|
  gd ((0 + x16.toNat).blt nx12 && true && true) <|
  gd ((0 + x16.toNat).blt nx12 && true && true) <|
  gd ((0 + x16.toNat).blt nx12 && true && true) <|
  gd ((0 + x16.toNat).blt nx12 && true && true) <|
  K .normal (st_toNdS_1 l (nx12) (setF (0 + x16.toNat) (1 + 1 + 1 + 1 + 1 + 1 + 1 + 1 + 1 + 1 + 1 + 1)
  (T.arr 1
    (inv ok_LI ea_LI
        [(0, false, [C.tr false (T.arr 1 (atL Nd.cs l x16.toNat 12).ln (atL Nd.cs l x16.toNat 12).fn)])]).length
    (atL rowI
      (inv ok_LI ea_LI
        [(0, false, [C.tr false (T.arr 1 (atL Nd.cs l x16.toNat 12).ln (atL Nd.cs l x16.toNat 12).fn)])])))
  (setF (0 + x16.toNat) (1 + 1 + 1 + 1 + 1 + 1 + 1 + 1 + 1 + 1 + 1)
    (T.arr 3
      (inv ok_ThS ea_ThS
          [(0, false, [C.tr false (T.arr 3 (atL Nd.cs l x16.toNat 11).ln (atL Nd.cs l x16.toNat 11).fn)])]).length
      (eL 3 Th.cs
          (inv ok_ThS ea_ThS
            [(0, false, [C.tr false (T.arr 3 (atL Nd.cs l x16.toNat 11).ln (atL Nd.cs l x16.toNat 11).fn)])])).fn)
    (setF (0 + x16.toNat) (1 + 1 + 1 + 1 + 1 + 1 + 1 + 1 + 1 + 1) (T.int IntKind.i64 (atL Nd.cs l x16.toNat 10).toI)
      (setF (0 + x16.toNat) (1 + 1 + 1 + 1 + 1 + 1 + 1 + 1 + 1) (T.int IntKind.i64 (atL Nd.cs l x16.toNat 9).toI)
        (setF (0 + x16.toNat) (1 + 1 + 1 + 1 + 1 + 1 + 1 + 1)
          (T.arr 1
            (inv ok_LI ea_LI
                [(0, false, [C.tr false (T.arr 1 (atL Nd.cs l x16.toNat 8).ln (atL Nd.cs l x16.toNat 8).fn)])]).length
            (atL rowI
              (inv ok_LI ea_LI
                [(0, false, [C.tr false (T.arr 1 (atL Nd.cs l x16.toNat 8).ln (atL Nd.cs l x16.toNat 8).fn)])])))
          (setF (0 + x16.toNat) (1 + 1 + 1 + 1 + 1 + 1 + 1) (T.int IntKind.i64 (atL Nd.cs l x16.toNat 7).toI)
            (setF (0 + x16.toNat) (1 + 1 + 1 + 1 + 1 + 1) (T.int IntKind.i64 (atL Nd.cs l x16.toNat 6).toI)
              (setF (0 + x16.toNat) (1 + 1 + 1 + 1 + 1) (T.int IntKind.i64 (atL Nd.cs l x16.toNat 5).toI)
                (setF (0 + x16.toNat) (1 + 1 + 1 + 1) (T.int IntKind.i64 (atL Nd.cs l x16.toNat 4).toI)
                  (setF (0 + x16.toNat) (1 + 1 + 1) (T.int IntKind.i64 (atL Nd.cs l x16.toNat 3).toI)
                    (setF (0 + x16.toNat) (1 + 1) (T.int IntKind.i64 (atL Nd.cs l x16.toNat 2).toI)
                      (setF (0 + x16.toNat) 1 (T.int IntKind.i64 (atL Nd.cs l x16.toNat 1).toI)
                        (setF (0 + x16.toNat) 0 (T.int IntKind.i64 (atL Nd.cs l x16.toNat 0).toI) fx12))))))))))))) (IntKind.i64.wrap (x16 + 1)))
 else
 K (.exit 0) (ex_toNdS_1_1 l nx12 fx12 x16)) := by kernel_rfl
theorem post_toNdS_1_1 (l : List Nd) (nx12 : Nat) (fx12 : Nat → Nat → T) (x16 : Int) (n : Nat) : contAt prog (tabS [(i_toNd, e_toNd)]) kp_toNdS F_toNdS ts_toNdS [1, 1, 0, 1, 0] [] n (.exit 0) (ex_toNdS_1_1 l nx12 fx12 x16) = (
 gd (nx12.ble nx12 && true) <|
 gd (nx12.ble nx12 && true) <|
 some ([(false, [.tr true (.arr (13) (nx12) (fx12))])], [(false, [])])) := by kernel_rfl
theorem pre_toNdS (l : List Nd) (n : Nat) : body prog (tabS [(i_toNd, e_toNd)]) kp_toNdS n F_toNdS [aT (eL 13 Nd.cs l)] = (
 gd (decide (0 ≤ (↑l.length : Int)) &&
  (decide ((↑l.length : Int) ≤ (↑l.length : Int)) &&
    (((↑l.length : Int).toNat * 152).ble 70368744177664 && (↑l.length : Int).toNat.ble 70368744177664))) <|
 gd ((↑l.length : Int).toNat.ble (↑l.length : Int).toNat && true) <|
 loopAt prog (tabS [(i_toNd, e_toNd)]) kp_toNdS F_toNdS [1, 1, 0, 1, 0] n n (st_toNdS_1 l ((↑l.length : Int).toNat) (cutT 0 (↑l.length : Int).toNat (zeroT prog 98)) (0)) (contAt prog (tabS [(i_toNd, e_toNd)]) kp_toNdS F_toNdS ts_toNdS [1, 1, 0, 1, 0] [] n)) := by kernel_rfl
theorem body_toNdS (l : List Nd) (hl : ok_NdS l) : body prog (tabS [(i_toNd, e_toNd)]) kp_toNdS (l.length + 1) F_toNdS (ea_NdS l) = some (erT 1 (eL 13 Nd.cs l)) := by
  have hl' : l.length ≤ LM := hl.1
  have hlm := lm
  unfold ea_NdS
  rw [pre_toNdS]
  simp only [ge0_d, Int.toNat_natCast, ble_d, Int.le_refl, Nat.le_refl, decide_true, Bool.and_true, Bool.true_and, gd_true]
  rw [decide_eq_true (show l.length * 152 ≤ 70368744177664 by omega), decide_eq_true (show l.length ≤ 70368744177664 by omega)]
  simp only [Bool.and_true, gd_true]
  rw [zero_fill (m := 13) (row := Nd.cs) (d := default) l.length (fun j k => by rcases k with _ | _ | _ | _ | _ | _ | _ | _ | _ | _ | _ | _ | _ | _ <;> kernel_rfl), ← fill_zero l default]
  have hst : st_toNdS_1 l l.length (atL Nd.cs (fill l default 0)) 0 = (fun i : Nat => st_toNdS_1 l l.length (atL Nd.cs (fill l default i)) (i : Nat)) 0 := rfl
  rw [hst, forLoop l.length (fun i : Nat => st_toNdS_1 l l.length (atL Nd.cs (fill l default i)) (i : Nat)) (ex_toNdS_1_1 l l.length (atL Nd.cs l) l.length) 0 (fun i K hi => ?_) (fun K => ?_) _ (Nat.le_refl _)]
  · rw [post_toNdS_1_1]
    simp only [ble_d, Nat.le_refl, decide_true, gd_true, Bool.and_true]
    rfl
  · have hx := List.getElem?_eq_getElem hi
    have h0 := (hl.2 _ (List.getElem_mem hi)).1
    have h1 := (hl.2 _ (List.getElem_mem hi)).2.1
    have h2 := (hl.2 _ (List.getElem_mem hi)).2.2
    have hd : (fill l default i)[i]? = some default := by
      unfold fill
      rw [List.getElem?_append_right (by simp; omega), List.getElem?_replicate, if_pos (by simp; omega)]
    rw [round_toNdS_1]
    simp only [lt_d, ge0_d, Int.toNat_natCast, blt_d, ble_self, beq_self, decide_true, cond_true, Bool.and_self, Bool.and_true, Bool.true_and, gd_true, Nat.zero_add, List.getD_cons_zero, List.getD_cons_succ, isI_int, toI_int, isB_bool, toB_bool, eL_T, arr_ln, arr_fn, arr_wd, arr_is, arr_get, hi, atL_of hx, Nd.cs, dm_toLI h0, iv_toLI h0, dm_toThS h1, iv_toThS h1, dm_toLI h2, iv_toLI h2]
    rw [wrapS (by omega), ← fill_set l default hx]
    congr 3
    refine set_atL (by rw [fill_len l default (by omega)]; exact hi) fun j' k' => ?_
    by_cases e : j' = i
    · subst e
      rcases k' with _ | _ | _ | _ | _ | _ | _ | _ | _ | _ | _ | _ | _ | k' <;> simp [setF_d, Nd.cs, atL_of hd, eL_T]
    · simp [setF_d, e]
  · rw [round_toNdS_1, fill_all]
    simp only [lt_d, Nat.lt_irrefl, decide_false, cond_false]
theorem s_toNdS : EntOk prog i_toNdS e_toNdS := ent_ok ea_NdS_inj fun l hl =>
  body_sound (φ := (tabS [(i_toNd, e_toNd)])) (tabS_cons s_toNd tabS_nil) mixed (kp := kp_toNdS) (n := l.length + 1) func66 (c := bodyOf F_toNdS) (by kernel_rfl) (body_toNdS l hl) (name_ok (by kernel_rfl))

def i_eqNdS : Nat := 71
noncomputable abbrev F_eqNdS : Func := f71
def kp_eqNdS : List (Nat × List Nat) := [(0, [0, 4]), (1, [0, 4, 40]), (2, [16]), (3, [0, 4, 20]), (4, [0, 4, 20, 56]), (5, [0, 4, 20]), (6, [0, 4, 20, 104]), (7, [16]), (8, [16])]
def ts_eqNdS : List Nat := [0, 0]
def st_eqNdS_1 (l r : List Nd) (x20 : Int) : St := [(0, ⟨z0, [(false, [.tr false (eL 13 Nd.cs l)])]⟩), (4, ⟨z0, [(false, [.tr false (eL 13 Nd.cs r)])]⟩), (20, ⟨z0, [(false, [.tr true (T.int IntKind.i64 x20)])]⟩)]
def ex_eqNdS_1_1 (l r : List Nd) (x20 : Int) : St := [(16, ⟨z0, [(false, [.tr true (T.bool false)])]⟩)]
def ex_eqNdS_1_2 (l r : List Nd) (x20 : Int) : St := [(0, ⟨z0, [(false, [.tr false (eL 13 Nd.cs l)])]⟩), (4, ⟨z0, [(false, [.tr false (eL 13 Nd.cs r)])]⟩), (20, ⟨z0, [(false, [.tr true (T.int IntKind.i64 x20)])]⟩), (56, ⟨z0, []⟩)]
theorem round_eqNdS_1 (l r : List Nd) (x20 : Int) (n : Nat) (K : Ex → St → Res) : roundAt prog (tabS [(i_eqNd, e_eqNd)]) kp_eqNdS F_eqNdS [1, 1, 0, 1, 0] n (st_eqNdS_1 l r x20) K = (
 bif decide (x20 < (↑l.length : Int)) then
  gd (decide (0 ≤ x20) && (x20.toNat.blt l.length && true)) <|
  gd (T.isI IntKind.i64 (atL Nd.cs l x20.toNat 0) && T.isI IntKind.i64 (atL Nd.cs l x20.toNat 1) &&
                      T.isI IntKind.i64 (atL Nd.cs l x20.toNat 2) &&
                    T.isI IntKind.i64 (atL Nd.cs l x20.toNat 3) &&
                  T.isI IntKind.i64 (atL Nd.cs l x20.toNat 4) &&
                T.isI IntKind.i64 (atL Nd.cs l x20.toNat 5) &&
              T.isI IntKind.i64 (atL Nd.cs l x20.toNat 6) &&
            T.isI IntKind.i64 (atL Nd.cs l x20.toNat 7) &&
          ((atL Nd.cs l x20.toNat 8).isArr && (atL Nd.cs l x20.toNat 8).wd.beq 1) &&
        T.isI IntKind.i64 (atL Nd.cs l x20.toNat 9) &&
      T.isI IntKind.i64 (atL Nd.cs l x20.toNat 10) &&
    ((atL Nd.cs l x20.toNat 11).isArr && (atL Nd.cs l x20.toNat 11).wd.beq 3) &&
  ((atL Nd.cs l x20.toNat 12).isArr && (atL Nd.cs l x20.toNat 12).wd.beq 1)) <|
  gd (decide (0 ≤ x20) && (x20.toNat.blt r.length && true)) <|
  gd (T.isI IntKind.i64 (atL Nd.cs r x20.toNat 0) && T.isI IntKind.i64 (atL Nd.cs r x20.toNat 1) &&
                      T.isI IntKind.i64 (atL Nd.cs r x20.toNat 2) &&
                    T.isI IntKind.i64 (atL Nd.cs r x20.toNat 3) &&
                  T.isI IntKind.i64 (atL Nd.cs r x20.toNat 4) &&
                T.isI IntKind.i64 (atL Nd.cs r x20.toNat 5) &&
              T.isI IntKind.i64 (atL Nd.cs r x20.toNat 6) &&
            T.isI IntKind.i64 (atL Nd.cs r x20.toNat 7) &&
          ((atL Nd.cs r x20.toNat 8).isArr && (atL Nd.cs r x20.toNat 8).wd.beq 1) &&
        T.isI IntKind.i64 (atL Nd.cs r x20.toNat 9) &&
      T.isI IntKind.i64 (atL Nd.cs r x20.toNat 10) &&
    ((atL Nd.cs r x20.toNat 11).isArr && (atL Nd.cs r x20.toNat 11).wd.beq 3) &&
  ((atL Nd.cs r x20.toNat 12).isArr && (atL Nd.cs r x20.toNat 12).wd.beq 1)) <|
  bif (atL Nd.cs l x20.toNat 0).toI != (atL Nd.cs r x20.toNat 0).toI then
   K .ret (ex_eqNdS_1_1 l r x20)
  else
  bif (atL Nd.cs l x20.toNat 1).toI != (atL Nd.cs r x20.toNat 1).toI then
   K .ret (ex_eqNdS_1_1 l r x20)
  else
  bif (atL Nd.cs l x20.toNat 2).toI != (atL Nd.cs r x20.toNat 2).toI then
   K .ret (ex_eqNdS_1_1 l r x20)
  else
  bif (atL Nd.cs l x20.toNat 3).toI != (atL Nd.cs r x20.toNat 3).toI then
   K .ret (ex_eqNdS_1_1 l r x20)
  else
  bif (atL Nd.cs l x20.toNat 4).toI != (atL Nd.cs r x20.toNat 4).toI then
   K .ret (ex_eqNdS_1_1 l r x20)
  else
  bif (atL Nd.cs l x20.toNat 5).toI != (atL Nd.cs r x20.toNat 5).toI then
   K .ret (ex_eqNdS_1_1 l r x20)
  else
  bif (atL Nd.cs l x20.toNat 6).toI != (atL Nd.cs r x20.toNat 6).toI then
   K .ret (ex_eqNdS_1_1 l r x20)
  else
  bif (atL Nd.cs l x20.toNat 7).toI != (atL Nd.cs r x20.toNat 7).toI then
   K .ret (ex_eqNdS_1_1 l r x20)
  else
  gd (dom ok2_LI ea2_LI
  [(0, false, [C.tr false (T.arr 1 (atL Nd.cs l x20.toNat 8).ln (atL Nd.cs l x20.toNat 8).fn)]),
    (0, false, [C.tr false (T.arr 1 (atL Nd.cs r x20.toNat 8).ln (atL Nd.cs r x20.toNat 8).fn)])]) <|
  bif !f_eqLI
    (inv ok2_LI ea2_LI
      [(0, false, [C.tr false (T.arr 1 (atL Nd.cs l x20.toNat 8).ln (atL Nd.cs l x20.toNat 8).fn)]),
        (0, false, [C.tr false (T.arr 1 (atL Nd.cs r x20.toNat 8).ln (atL Nd.cs r x20.toNat 8).fn)])]) then
   K .ret (ex_eqNdS_1_1 l r x20)
  else
  bif (atL Nd.cs l x20.toNat 9).toI != (atL Nd.cs r x20.toNat 9).toI then
   K .ret (ex_eqNdS_1_1 l r x20)
  else
  bif (atL Nd.cs l x20.toNat 10).toI != (atL Nd.cs r x20.toNat 10).toI then
   K .ret (ex_eqNdS_1_1 l r x20)
  else
  gd (dom ok2_ThS ea2_ThS
  [(0, false, [C.tr false (T.arr 3 (atL Nd.cs l x20.toNat 11).ln (atL Nd.cs l x20.toNat 11).fn)]),
    (0, false, [C.tr false (T.arr 3 (atL Nd.cs r x20.toNat 11).ln (atL Nd.cs r x20.toNat 11).fn)])]) <|
  bif !f_eqThS
    (inv ok2_ThS ea2_ThS
      [(0, false, [C.tr false (T.arr 3 (atL Nd.cs l x20.toNat 11).ln (atL Nd.cs l x20.toNat 11).fn)]),
        (0, false, [C.tr false (T.arr 3 (atL Nd.cs r x20.toNat 11).ln (atL Nd.cs r x20.toNat 11).fn)])]) then
   K .ret (ex_eqNdS_1_1 l r x20)
  else
  gd (dom ok2_LI ea2_LI
  [(0, false, [C.tr false (T.arr 1 (atL Nd.cs l x20.toNat 12).ln (atL Nd.cs l x20.toNat 12).fn)]),
    (0, false, [C.tr false (T.arr 1 (atL Nd.cs r x20.toNat 12).ln (atL Nd.cs r x20.toNat 12).fn)])]) <|
  bif !f_eqLI
    (inv ok2_LI ea2_LI
      [(0, false, [C.tr false (T.arr 1 (atL Nd.cs l x20.toNat 12).ln (atL Nd.cs l x20.toNat 12).fn)]),
        (0, false, [C.tr false (T.arr 1 (atL Nd.cs r x20.toNat 12).ln (atL Nd.cs r x20.toNat 12).fn)])]) then
   K .ret (ex_eqNdS_1_1 l r x20)
  else
  K .normal (st_eqNdS_1 l r (IntKind.i64.wrap (x20 + 1)))
 else
 K (.exit 0) (ex_eqNdS_1_2 l r x20)) := by kernel_rfl
theorem post_eqNdS_1_1 (l r : List Nd) (x20 : Int) (n : Nat) : contAt prog (tabS [(i_eqNd, e_eqNd)]) kp_eqNdS F_eqNdS ts_eqNdS [1, 1, 0, 1, 0] [] n .ret (ex_eqNdS_1_1 l r x20) = (
 some ([(false, [.tr true (T.bool false)])], [(false, []), (false, [])])) := by kernel_rfl
theorem post_eqNdS_1_2 (l r : List Nd) (x20 : Int) (n : Nat) : contAt prog (tabS [(i_eqNd, e_eqNd)]) kp_eqNdS F_eqNdS ts_eqNdS [1, 1, 0, 1, 0] [] n (.exit 0) (ex_eqNdS_1_2 l r x20) = (
 some ([(false, [.tr true (T.bool true)])], [(false, []), (false, [])])) := by kernel_rfl
theorem pre_eqNdS (l r : List Nd) (n : Nat) : body prog (tabS [(i_eqNd, e_eqNd)]) kp_eqNdS n F_eqNdS [aT (eL 13 Nd.cs l), aT (eL 13 Nd.cs r)] = (
 bif (↑l.length : Int) != (↑r.length : Int) then
  some ([(false, [.tr true (T.bool false)])], [(false, []), (false, [])])
 else
 loopAt prog (tabS [(i_eqNd, e_eqNd)]) kp_eqNdS F_eqNdS [1, 1, 0, 1, 0] n n (st_eqNdS_1 l r (0)) (contAt prog (tabS [(i_eqNd, e_eqNd)]) kp_eqNdS F_eqNdS ts_eqNdS [1, 1, 0, 1, 0] [] n)) := by kernel_rfl
theorem body_eqNdS (l r : List Nd) (hl : okq_NdS l) : body prog (tabS [(i_eqNd, e_eqNd)]) kp_eqNdS (l.length + 1) F_eqNdS (ea2_NdS (l, r)) = some (erB 2 (f_eqNdS (l, r))) := by
  have hbm := bm
  have hl' : l.length ≤ BM := hl.1
  unfold ea2_NdS f_eqNdS
  dsimp only
  rw [pre_eqNdS, int_ne]
  by_cases h : l.length = r.length
  · rw [decide_eq_true (by omega)]
    simp only [Bool.not_true, cond_false]
    have hst : st_eqNdS_1 l r 0 = (fun i : Nat => st_eqNdS_1 l r (i : Nat)) 0 := rfl
    rw [hst, eqS l r h (fun i : Nat => st_eqNdS_1 l r (i : Nat)) (fun i : Nat => ex_eqNdS_1_1 l r (i : Nat)) (ex_eqNdS_1_2 l r l.length) (fun i x y K hx hy => ?_) (fun K => ?_) (fun i => post_eqNdS_1_1 l r _ _) (post_eqNdS_1_2 l r _ _) _ (Nat.le_refl _)]
    · by_cases e : l = r
      · rw [if_pos e, decide_eq_true e]; rfl
      · rw [if_neg e, decide_eq_false e]; rfl
    · have hi := (List.getElem?_eq_some_iff.1 hx).1
      have hi' := (List.getElem?_eq_some_iff.1 hy).1
      have hxm : x ∈ l := List.mem_of_getElem? hx
      have h0 := (hl.2 _ hxm).1
      have h1 := (hl.2 _ hxm).2.1
      have h2 := (hl.2 _ hxm).2.2
      rw [round_eqNdS_1]
      simp only [lt_d, ge0_d, Int.toNat_natCast, blt_d, ble_self, beq_self, decide_true, cond_true, Bool.and_self, Bool.and_true, Bool.true_and, gd_true, Nat.zero_add, List.getD_cons_zero, List.getD_cons_succ, isI_int, toI_int, isB_bool, toB_bool, eL_T, arr_ln, arr_fn, arr_wd, arr_is, arr_get, hi, hi', atL_of hx, atL_of hy, Nd.cs, int_ne, bool_ne, bool_eq, dm_eqLI h0, iv_eqLI h0, d_eqLI, dm_eqThS h1, iv_eqThS h1, d_eqThS, dm_eqLI h2, iv_eqLI h2, d_eqLI, chain]
      rw [wrapS (by omega)]
      have hxy : (x.st = y.st ∧ x.gen = y.gen ∧ x.ep = y.ep ∧ x.up = y.up ∧ x.upEp = y.upEp ∧ x.first = y.first ∧ x.next = y.next ∧ x.prev = y.prev ∧ x.chunks = y.chunks ∧ x.cur = y.cur ∧ x.bump = y.bump ∧ x.things = y.things ∧ x.tags = y.tags) ↔ x = y := by
        rcases x with ⟨x0, x1, x2, x3, x4, x5, x6, x7, x8, x9, x10, x11, x12⟩
        rcases y with ⟨y0, y1, y2, y3, y4, y5, y6, y7, y8, y9, y10, y11, y12⟩
        simp [and_assoc]
      simp only [hxy]
    · rw [round_eqNdS_1]
      simp only [lt_d, Nat.lt_irrefl, decide_false, cond_false]
  · rw [decide_eq_false (by omega)]
    have : ¬ l = r := fun e => h (by rw [e])
    rw [decide_eq_false this]
    rfl
theorem s_eqNdS : EntOk prog i_eqNdS e_eqNdS := ent_ok ea2_NdS_inj fun x hx =>
  body_sound (φ := (tabS [(i_eqNd, e_eqNd)])) (tabS_cons s_eqNd tabS_nil) mixed (kp := kp_eqNdS) (n := x.1.length + 1) func71 (c := bodyOf F_eqNdS) (by kernel_rfl) (body_eqNdS x.1 x.2 hx) (name_ok (by kernel_rfl))

theorem dm_toNdS {l : List Nd} (h : ok_NdS l) : dom ok_NdS ea_NdS [(0, false, [C.tr false (T.arr 13 l.length (atL Nd.cs l))])] = true := dom_ea (ea := ea_NdS) (x := l) h
theorem iv_toNdS {l : List Nd} (h : ok_NdS l) : inv ok_NdS ea_NdS [(0, false, [C.tr false (T.arr 13 l.length (atL Nd.cs l))])] = l := inv_ea ea_NdS_inj (x := l) h
theorem dm_eqNdS {l r : List Nd} (h : okq_NdS l) : dom ok2_NdS ea2_NdS [(0, false, [C.tr false (T.arr 13 l.length (atL Nd.cs l))]), (0, false, [C.tr false (T.arr 13 r.length (atL Nd.cs r))])] = true := dom_ea (ea := ea2_NdS) (x := (l, r)) h
theorem iv_eqNdS {l r : List Nd} (h : okq_NdS l) : inv ok2_NdS ea2_NdS [(0, false, [C.tr false (T.arr 13 l.length (atL Nd.cs l))]), (0, false, [C.tr false (T.arr 13 r.length (atL Nd.cs r))])] = (l, r) := inv_ea ea2_NdS_inj (x := (l, r)) h
theorem d_eqNdS (l r : List Nd) : f_eqNdS (l, r) = decide (l = r) := rfl
def n1_NdS (x : Nd) : Nat := n_LI x.chunks + n_ThS x.things + n_LI x.tags
def n_NdS (l : List Nd) : Nat := l.length + cntL n1_NdS l
def okz_NdS (l : List Nd) : Prop := l.length ≤ ZM ∧ ∀ x ∈ l, okz_LI x.chunks ∧ okz_ThS x.things ∧ okz_LI x.tags
def okzz_NdS (x : List Nd × Int) : Prop := okz_NdS x.1 ∧ 0 ≤ x.2 ∧ x.2 ≤ LM
def eaz_NdS (x : List Nd × Int) : List Arg := [aT (eL 13 Nd.cs x.1), aI x.2]
def f_szNdS (x : List Nd × Int) : Int := if (n_NdS x.1 : Int) ≤ x.2 then x.2 - n_NdS x.1 else -1
noncomputable def e_szNdS : Ent := ent [] okzz_NdS eaz_NdS (erI 2) f_szNdS
theorem eaz_NdS_inj (x y : List Nd × Int) (h : eaz_NdS x = eaz_NdS y) : x = y := by
  simp only [eaz_NdS, aI, aT, List.cons.injEq, Prod.mk.injEq, true_and, and_true, C.tr.injEq, T.int.injEq] at h
  exact Prod.ext (eL_inj Nd.cs_inj h.1) h.2
theorem dm_szNdS {l : List Nd} {k : Int} (h : okzz_NdS (l, k)) : dom okzz_NdS eaz_NdS [(0, false, [C.tr false (T.arr 13 l.length (atL Nd.cs l))]), (0, false, [C.tr false (T.int IntKind.i64 k)])] = true := dom_ea (ea := eaz_NdS) (x := (l, k)) h
theorem iv_szNdS {l : List Nd} {k : Int} (h : okzz_NdS (l, k)) : inv okzz_NdS eaz_NdS [(0, false, [C.tr false (T.arr 13 l.length (atL Nd.cs l))]), (0, false, [C.tr false (T.int IntKind.i64 k)])] = (l, k) := inv_ea eaz_NdS_inj (x := (l, k)) h
theorem y_szNdS {l : List Nd} {k : Int} (h : (n_NdS l : Int) ≤ k) : f_szNdS (l, k) = k - n_NdS l := if_pos h
theorem n_szNdS {l : List Nd} {k : Int} (h : ¬ (n_NdS l : Int) ≤ k) : f_szNdS (l, k) = -1 := if_neg h
def i_szNdS : Nat := 61
noncomputable abbrev F_szNdS : Func := f61
def kp_szNdS : List (Nat × List Nat) := [(0, [0, 4]), (1, [0, 4]), (2, [0, 4, 44]), (3, [16]), (4, [0, 4, 20]), (5, [0, 4, 20, 60]), (6, [0, 4, 20]), (7, [0, 4, 20]), (8, [0, 4, 20, 100]), (9, [16]), (10, [16])]
def ts_szNdS : List Nat := [0, 0]
def st_szNdS_1 (l : List Nd) (k : Int) (x4 : Int) (x20 : Int) : St := [(0, ⟨z0, [(false, [.tr false (eL 13 Nd.cs l)])]⟩), (4, ⟨z0, [(false, [.tr true (T.int IntKind.i64 x4)])]⟩), (20, ⟨z0, [(false, [.tr true (T.int IntKind.i64 x20)])]⟩)]
def ex_szNdS_1_1 (l : List Nd) (k : Int) (x4 : Int) (x20 : Int) : St := [(16, ⟨z0, [(false, [.tr true (T.int IntKind.i64 (-1))])]⟩)]
def ex_szNdS_1_2 (l : List Nd) (k : Int) (x4 : Int) (x20 : Int) : St := [(0, ⟨z0, [(false, [.tr false (eL 13 Nd.cs l)])]⟩), (4, ⟨z0, [(false, [.tr true (T.int IntKind.i64 x4)])]⟩), (20, ⟨z0, [(false, [.tr true (T.int IntKind.i64 x20)])]⟩), (60, ⟨z0, []⟩)]
theorem round_szNdS_1 (l : List Nd) (k : Int) (x4 : Int) (x20 : Int) (n : Nat) (K : Ex → St → Res) : roundAt prog (tabS [(i_szNd, e_szNd)]) kp_szNdS F_szNdS [1, 1, 1, 0, 1, 0] n (st_szNdS_1 l k x4 x20) K = (
 bif decide (x20 < (↑l.length : Int)) then
  gd (decide (0 ≤ x20) && (x20.toNat.blt l.length && true)) <|
  gd (T.isI IntKind.i64 (atL Nd.cs l x20.toNat 0) && T.isI IntKind.i64 (atL Nd.cs l x20.toNat 1) &&
                      T.isI IntKind.i64 (atL Nd.cs l x20.toNat 2) &&
                    T.isI IntKind.i64 (atL Nd.cs l x20.toNat 3) &&
                  T.isI IntKind.i64 (atL Nd.cs l x20.toNat 4) &&
                T.isI IntKind.i64 (atL Nd.cs l x20.toNat 5) &&
              T.isI IntKind.i64 (atL Nd.cs l x20.toNat 6) &&
            T.isI IntKind.i64 (atL Nd.cs l x20.toNat 7) &&
          ((atL Nd.cs l x20.toNat 8).isArr && (atL Nd.cs l x20.toNat 8).wd.beq 1) &&
        T.isI IntKind.i64 (atL Nd.cs l x20.toNat 9) &&
      T.isI IntKind.i64 (atL Nd.cs l x20.toNat 10) &&
    ((atL Nd.cs l x20.toNat 11).isArr && (atL Nd.cs l x20.toNat 11).wd.beq 3) &&
  ((atL Nd.cs l x20.toNat 12).isArr && (atL Nd.cs l x20.toNat 12).wd.beq 1)) <|
  bif decide (IntKind.i64.wrap (x4 - (↑(atL Nd.cs l x20.toNat 8).ln : Int)) < 0) then
   K .ret (ex_szNdS_1_1 l k x4 x20)
  else
  bif decide (IntKind.i64.wrap (x4 - (↑(atL Nd.cs l x20.toNat 8).ln : Int)) < 0) then
   K .ret (ex_szNdS_1_1 l k x4 x20)
  else
  bif decide
  (IntKind.i64.wrap
      (IntKind.i64.wrap (x4 - (↑(atL Nd.cs l x20.toNat 8).ln : Int)) - (↑(atL Nd.cs l x20.toNat 11).ln : Int)) <
    0) then
   K .ret (ex_szNdS_1_1 l k x4 x20)
  else
  bif decide
  (IntKind.i64.wrap
      (IntKind.i64.wrap (x4 - (↑(atL Nd.cs l x20.toNat 8).ln : Int)) - (↑(atL Nd.cs l x20.toNat 11).ln : Int)) <
    0) then
   K .ret (ex_szNdS_1_1 l k x4 x20)
  else
  bif decide
  (IntKind.i64.wrap
      (IntKind.i64.wrap
          (IntKind.i64.wrap (x4 - (↑(atL Nd.cs l x20.toNat 8).ln : Int)) - (↑(atL Nd.cs l x20.toNat 11).ln : Int)) -
        (↑(atL Nd.cs l x20.toNat 12).ln : Int)) <
    0) then
   K .ret (ex_szNdS_1_1 l k x4 x20)
  else
  bif decide
  (IntKind.i64.wrap
      (IntKind.i64.wrap
          (IntKind.i64.wrap (x4 - (↑(atL Nd.cs l x20.toNat 8).ln : Int)) - (↑(atL Nd.cs l x20.toNat 11).ln : Int)) -
        (↑(atL Nd.cs l x20.toNat 12).ln : Int)) <
    0) then
   K .ret (ex_szNdS_1_1 l k x4 x20)
  else
  bif decide
  (IntKind.i64.wrap
      (IntKind.i64.wrap
          (IntKind.i64.wrap (x4 - (↑(atL Nd.cs l x20.toNat 8).ln : Int)) - (↑(atL Nd.cs l x20.toNat 11).ln : Int)) -
        (↑(atL Nd.cs l x20.toNat 12).ln : Int)) <
    0) then
   K .ret (ex_szNdS_1_1 l k x4 x20)
  else
  K .normal (st_szNdS_1 l k (IntKind.i64.wrap
  (IntKind.i64.wrap
      (IntKind.i64.wrap (x4 - (↑(atL Nd.cs l x20.toNat 8).ln : Int)) - (↑(atL Nd.cs l x20.toNat 11).ln : Int)) -
    (↑(atL Nd.cs l x20.toNat 12).ln : Int))) (IntKind.i64.wrap (x20 + 1)))
 else
 K (.exit 0) (ex_szNdS_1_2 l k x4 x20)) := by kernel_rfl
theorem post_szNdS_1_1 (l : List Nd) (k : Int) (x4 : Int) (x20 : Int) (n : Nat) : contAt prog (tabS [(i_szNd, e_szNd)]) kp_szNdS F_szNdS ts_szNdS [1, 1, 1, 0, 1, 0] [] n .ret (ex_szNdS_1_1 l k x4 x20) = (
 some ([(false, [.tr true (T.int IntKind.i64 (-1))])], [(false, []), (false, [])])) := by kernel_rfl
theorem post_szNdS_1_2 (l : List Nd) (k : Int) (x4 : Int) (x20 : Int) (n : Nat) : contAt prog (tabS [(i_szNd, e_szNd)]) kp_szNdS F_szNdS ts_szNdS [1, 1, 1, 0, 1, 0] [] n (.exit 0) (ex_szNdS_1_2 l k x4 x20) = (
 some ([(false, [.tr true (T.int IntKind.i64 x4)])], [(false, []), (false, [])])) := by kernel_rfl
theorem pre_szNdS (l : List Nd) (k : Int) (n : Nat) : body prog (tabS [(i_szNd, e_szNd)]) kp_szNdS n F_szNdS [aT (eL 13 Nd.cs l), aI k] = (
 bif decide (IntKind.i64.wrap (k - (↑l.length : Int)) < 0) then
  some ([(false, [.tr true (T.int IntKind.i64 (-1))])], [(false, []), (false, [])])
 else
 loopAt prog (tabS [(i_szNd, e_szNd)]) kp_szNdS F_szNdS [1, 1, 1, 0, 1, 0] n n (st_szNdS_1 l k (IntKind.i64.wrap (k - (↑l.length : Int))) (0)) (contAt prog (tabS [(i_szNd, e_szNd)]) kp_szNdS F_szNdS ts_szNdS [1, 1, 1, 0, 1, 0] [] n)) := by kernel_rfl
theorem round1_szNdS (l : List Nd) (k : Int) (hl : okz_NdS l) {n : Nat} (i : Nat) (x : Nd) (K : Ex → St → Res) (hx : l[i]? = some x) (hr : (cntL n1_NdS (l.take i) : Int) ≤ k - (l.length : Int)) (hk1 : k ≤ LM) : roundAt prog (tabS [(i_szNd, e_szNd)]) kp_szNdS F_szNdS [1, 1, 1, 0, 1, 0] n (st_szNdS_1 l k (k - (l.length : Int) - cntL n1_NdS (l.take i)) (i : Nat)) K = bif decide (k - (l.length : Int) - cntL n1_NdS (l.take i) < n1_NdS x) then K .ret (ex_szNdS_1_1 l k (k - (l.length : Int) - cntL n1_NdS (l.take i)) (i : Nat)) else K .normal (st_szNdS_1 l k (k - (l.length : Int) - cntL n1_NdS (l.take (i + 1))) ((i + 1 : Nat) : Int)) := by
    have hzm := zm
    have hlm := lm
    have hl' : l.length ≤ ZM := hl.1
    have hi := (List.getElem?_eq_some_iff.1 hx).1
    have hxm : x ∈ l := List.mem_of_getElem? hx
    have hc := cntL_take n1_NdS l hx
    have hcx : n1_NdS x = x.chunks.length + x.things.length + x.tags.length := rfl
    rw [hc, round_szNdS_1]
    obtain ⟨k0, hk⟩ : ∃ k0, k0 = k - (l.length : Int) - (cntL n1_NdS (l.take i) : Int) := ⟨_, rfl⟩
    have hk2 : k - (l.length : Int) - ((cntL n1_NdS (l.take i) + n1_NdS x : Nat) : Int) = k0 - (x.chunks.length : Int) - (x.things.length : Int) - (x.tags.length : Int) := by omega
    rw [hk2, ← hk]
    have hk3 : 0 ≤ k0 := by omega
    have hk4 : k0 ≤ LM := by omega
    simp (disch := omega) only [lt_d, ge0_d, Int.toNat_natCast, blt_d, ble_self, beq_self, decide_true, cond_true, Bool.and_self, Bool.and_true, Bool.true_and, gd_true, Nat.zero_add, List.getD_cons_zero, List.getD_cons_succ, isI_int, toI_int, isB_bool, toB_bool, eL_T, arr_ln, arr_fn, arr_wd, arr_is, arr_get, hi, atL_of hx, Nd.cs, wrapS]
    have h0 : x.chunks.length ≤ ZM := (hl.2 _ hxm).1
    have h1 : x.things.length ≤ ZM := (hl.2 _ hxm).2.1
    have h2 : x.tags.length ≤ ZM := (hl.2 _ hxm).2.2
    try simp (disch := omega) only [wrapI]
    by_cases e0 : k0 - (x.chunks.length : Int) < 0
    case pos =>
      rw [decide_eq_true e0, decide_eq_true (show k0 < (n1_NdS x : Int) by omega)]
      rfl
    simp (disch := omega) only [decide_eq_false e0, cond_false, wrapI]
    try simp (disch := omega) only [wrapI]
    by_cases e1 : k0 - (x.chunks.length : Int) - (x.things.length : Int) < 0
    case pos =>
      rw [decide_eq_true e1, decide_eq_true (show k0 < (n1_NdS x : Int) by omega)]
      rfl
    simp (disch := omega) only [decide_eq_false e1, cond_false, wrapI]
    try simp (disch := omega) only [wrapI]
    by_cases e2 : k0 - (x.chunks.length : Int) - (x.things.length : Int) - (x.tags.length : Int) < 0
    case pos =>
      rw [decide_eq_true e2, decide_eq_true (show k0 < (n1_NdS x : Int) by omega)]
      rfl
    simp (disch := omega) only [decide_eq_false e2, cond_false, wrapI]
    rw [decide_eq_false (show ¬ k0 < (n1_NdS x : Int) by omega)]
    simp only [cond_false]
    try congr 2
    try omega
theorem body_szNdS (l : List Nd) (k : Int) (h : okzz_NdS (l, k)) : body prog (tabS [(i_szNd, e_szNd)]) kp_szNdS (l.length + 1) F_szNdS (eaz_NdS (l, k)) = some (erI 2 (f_szNdS (l, k))) := by
  obtain ⟨hl, hk0, hk1⟩ := h
  have hzm := zm
  have hlm := lm
  dsimp only at hl hk0 hk1
  have hl' : l.length ≤ ZM := hl.1
  have hn : n_NdS l = l.length + cntL n1_NdS l := rfl
  unfold eaz_NdS f_szNdS
  dsimp only
  rw [pre_szNdS]
  simp (disch := omega) only [wrapI]
  by_cases hs : k - (l.length : Int) < 0
  · rw [decide_eq_true hs, if_neg (by omega)]
    rfl
  · rw [decide_eq_false hs]
    simp only [cond_false]
    have hst : st_szNdS_1 l k (k - (l.length : Int)) 0 = (fun i : Nat => st_szNdS_1 l k (k - (l.length : Int) - cntL n1_NdS (l.take i)) (i : Nat)) 0 := by simp [cntL]
    rw [hst, szS n1_NdS l (k - (l.length : Int)) (by omega) (fun i : Nat => st_szNdS_1 l k (k - (l.length : Int) - cntL n1_NdS (l.take i)) (i : Nat)) (fun i : Nat => ex_szNdS_1_1 l k (k - (l.length : Int) - cntL n1_NdS (l.take i)) (i : Nat)) (ex_szNdS_1_2 l k (k - (l.length : Int) - cntL n1_NdS l) l.length) (fun i x K hx hr => ?_) (fun K hr => ?_) (fun i => post_szNdS_1_1 l k _ _ _) (post_szNdS_1_2 l k _ _ _) _ (Nat.le_refl _)]
    · by_cases hq : (cntL n1_NdS l : Int) ≤ k - (l.length : Int)
      · rw [if_pos hq, if_pos (by omega), show k - (l.length : Int) - (cntL n1_NdS l : Int) = k - (n_NdS l : Int) by omega]
        rfl
      · rw [if_neg hq, if_neg (by omega)]
        rfl
    · exact round1_szNdS l k hl i x K hx hr hk1
    · rw [round_szNdS_1]
      simp only [lt_d, Nat.lt_irrefl, decide_false, cond_false, List.take_length]
theorem s_szNdS : EntOk prog i_szNdS e_szNdS := ent_ok eaz_NdS_inj fun x hx =>
  body_sound (φ := (tabS [(i_szNd, e_szNd)])) (tabS_cons s_szNd tabS_nil) mixed (kp := kp_szNdS) (n := x.1.length + 1) func61 (c := bodyOf F_szNdS) (by kernel_rfl) (body_szNdS x.1 x.2 hx) (name_ok (by kernel_rfl))

theorem Ws.cs_inj (x y : Ws) (h : ∀ k, x.cs.getD k .hole = y.cs.getD k .hole) : x = y := by
  have h0 := h 0; have h1 := h 1; have h2 := h 2; have h3 := h 3; have h4 := h 4
  rcases x with ⟨x0, x1, x2, x3, x4⟩
  rcases y with ⟨y0, y1, y2, y3, y4⟩
  simp only [Ws.cs, List.getD_cons_zero, List.getD_cons_succ, T.int.injEq, T.bool.injEq, true_and] at h0 h1 h2 h3 h4
  replace h2 := eI_inj h2
  replace h3 := eI_inj h3
  subst h0; subst h1; subst h2; subst h3; subst h4
  rfl
def i_toWs : Nat := 139
noncomputable abbrev F_toWs : Func := f139
def kp_toWs : List (Nat × List Nat) := [(0, [4, 5, 8, 9, 12, 13, 84]), (1, [4, 5, 8, 9, 12, 13, 84]), (2, [4, 5, 8, 9, 12, 13, 84]), (3, [4, 5, 8, 9, 12, 13, 84]), (4, [4, 5, 8, 9, 12, 13, 84]), (5, [4, 5, 8, 9, 12, 13, 84]), (6, [8, 9, 12, 13, 84]), (7, [8, 9, 12, 13, 84])]
noncomputable def e_toWs : Ent := inl [] prog (tabS [(i_toLI, e_toLI)]) kp_toWs 0 F_toWs
theorem s_toWs : EntOk prog i_toWs e_toWs := inl_ok (tabS_cons s_toLI tabS_nil) mixed (c := bodyOf F_toWs) func139 (by kernel_rfl) (name_ok (by kernel_rfl))
def i_eqWs : Nat := 141
noncomputable abbrev F_eqWs : Func := f141
def kp_eqWs : List (Nat × List Nat) := [(0, [8, 9, 12, 13]), (1, [8, 9, 12, 13, 36]), (2, [16]), (3, [8, 9, 12, 13, 56]), (4, [16]), (5, [8, 9, 12, 13, 80]), (6, [16]), (7, [8, 9, 12, 13, 104]), (8, [16]), (9, [124]), (10, [16]), (11, [16])]
noncomputable def e_eqWs : Ent := inl [] prog (tabS [(i_eqLI, e_eqLI)]) kp_eqWs 0 F_eqWs
theorem s_eqWs : EntOk prog i_eqWs e_eqWs := inl_ok (tabS_cons s_eqLI tabS_nil) mixed (c := bodyOf F_eqWs) func141 (by kernel_rfl) (name_ok (by kernel_rfl))
def i_szWs : Nat := 137
noncomputable abbrev F_szWs : Func := f137
def kp_szWs : List (Nat × List Nat) := [(0, [4, 8, 9]), (1, [4, 8, 9]), (2, [4, 8, 9, 40]), (3, [16]), (4, [4]), (5, [4, 64]), (6, [16]), (7, [16])]
noncomputable def e_szWs : Ent := inl [] prog (tabS [(i_szLI, e_szLI)]) kp_szWs 0 F_szWs
theorem s_szWs : EntOk prog i_szWs e_szWs := inl_ok (tabS_cons s_szLI tabS_nil) mixed (c := bodyOf F_szWs) func137 (by kernel_rfl) (name_ok (by kernel_rfl))
def ok_WsS (l : List Ws) : Prop := l.length ≤ LM ∧ ∀ x ∈ l, ok_LI x.tags ∧ ok_LI x.chunks
def ea_WsS (l : List Ws) : List Arg := [aT (eL 5 Ws.cs l)]
noncomputable def e_toWsS : Ent := ent [] ok_WsS ea_WsS (fun l => erT 1 (eL 5 Ws.cs l)) fun l => l
def okq_WsS (l : List Ws) : Prop := l.length ≤ BM ∧ ∀ x ∈ l, okq_LI x.tags ∧ okq_LI x.chunks
def ok2_WsS (x : List Ws × List Ws) : Prop := okq_WsS x.1
def ea2_WsS (x : List Ws × List Ws) : List Arg := [aT (eL 5 Ws.cs x.1), aT (eL 5 Ws.cs x.2)]
def f_eqWsS (x : List Ws × List Ws) : Bool := decide (x.1 = x.2)
noncomputable def e_eqWsS : Ent := ent [] ok2_WsS ea2_WsS (erB 2) f_eqWsS
theorem ea_WsS_inj (x y : List Ws) (h : ea_WsS x = ea_WsS y) : x = y := by
  simp only [ea_WsS, aT, List.cons.injEq, Prod.mk.injEq, true_and, and_true, C.tr.injEq] at h
  exact eL_inj Ws.cs_inj h
theorem ea2_WsS_inj (x y : List Ws × List Ws) (h : ea2_WsS x = ea2_WsS y) : x = y := by
  simp only [ea2_WsS, aT, List.cons.injEq, Prod.mk.injEq, true_and, and_true, C.tr.injEq] at h
  exact Prod.ext (eL_inj Ws.cs_inj h.1) (eL_inj Ws.cs_inj h.2)
def i_toWsS : Nat := 67
noncomputable abbrev F_toWsS : Func := f67
def kp_toWsS : List (Nat × List Nat) := [(0, [0]), (1, [0, 12]), (2, [0, 12, 16]), (3, [0, 12, 16, 44]), (4, [0, 12, 16]), (5, [0, 12, 16]), (6, [8])]
def ts_toWsS : List Nat := [0]
def st_toWsS_1 (l : List Ws) (nx12 : Nat) (fx12 : Nat → Nat → T) (x16 : Int) : St := [(0, ⟨z0, [(false, [.tr false (eL 5 Ws.cs l)])]⟩), (12, ⟨z0, [(false, [.tr true (.arr (5) (nx12) (fx12))])]⟩), (16, ⟨z0, [(false, [.tr true (T.int IntKind.i64 x16)])]⟩)]
def ex_toWsS_1_1 (l : List Ws) (nx12 : Nat) (fx12 : Nat → Nat → T) (x16 : Int) : St := [(0, ⟨z0, [(false, [.tr false (eL 5 Ws.cs l)])]⟩), (12, ⟨z0, [(false, [.tr true (.arr (5) (nx12) (fx12))])]⟩), (16, ⟨z0, [(false, [.tr true (T.int IntKind.i64 x16)])]⟩), (44, ⟨z0, []⟩)]
theorem round_toWsS_1 (l : List Ws) (nx12 : Nat) (fx12 : Nat → Nat → T) (x16 : Int) (n : Nat) (K : Ex → St → Res) : roundAt prog (tabS [(i_toWs, e_toWs)]) kp_toWsS F_toWsS [1, 1, 0, 1, 0] n (st_toWsS_1 l nx12 fx12 x16) K = (
 bif decide (x16 < (↑l.length : Int)) then
  gd (decide (0 ≤ x16) && (x16.toNat.blt l.length && true)) <|
  gd (T.isI IntKind.i64 (atL Ws.cs l x16.toNat 0) && T.isI IntKind.i64 (atL Ws.cs l x16.toNat 1) &&
      ((atL Ws.cs l x16.toNat 2).isArr && (atL Ws.cs l x16.toNat 2).wd.beq 1) &&
    ((atL Ws.cs l x16.toNat 3).isArr && (atL Ws.cs l x16.toNat 3).wd.beq 1) &&
  T.isI IntKind.i64 (atL Ws.cs l x16.toNat 4)) <|
  gd (dom ok_LI ea_LI [(0, false, [C.tr false (T.arr 1 (atL Ws.cs l x16.toNat 2).ln (atL Ws.cs l x16.toNat 2).fn)])]) <|
  gd ((inv ok_LI ea_LI
          [(0, false, [C.tr false (T.arr 1 (atL Ws.cs l x16.toNat 2).ln (atL Ws.cs l x16.toNat 2).fn)])]).length.ble
    (inv ok_LI ea_LI
        [(0, false, [C.tr false (T.arr 1 (atL Ws.cs l x16.toNat 2).ln (atL Ws.cs l x16.toNat 2).fn)])]).length &&
  true) <|
  gd (dom ok_LI ea_LI [(0, false, [C.tr false (T.arr 1 (atL Ws.cs l x16.toNat 3).ln (atL Ws.cs l x16.toNat 3).fn)])]) <|
  gd ((inv ok_LI ea_LI
          [(0, false, [C.tr false (T.arr 1 (atL Ws.cs l x16.toNat 3).ln (atL Ws.cs l x16.toNat 3).fn)])]).length.ble
    (inv ok_LI ea_LI
        [(0, false, [C.tr false (T.arr 1 (atL Ws.cs l x16.toNat 3).ln (atL Ws.cs l x16.toNat 3).fn)])]).length &&
  true) <|
  gd ((inv ok_LI ea_LI
          [(0, false, [C.tr false (T.arr 1 (atL Ws.cs l x16.toNat 2).ln (atL Ws.cs l x16.toNat 2).fn)])]).length.ble
    (inv ok_LI ea_LI
        [(0, false, [C.tr false (T.arr 1 (atL Ws.cs l x16.toNat 2).ln (atL Ws.cs l x16.toNat 2).fn)])]).length &&
  true) <|
  gd ((inv ok_LI ea_LI
          [(0, false, [C.tr false (T.arr 1 (atL Ws.cs l x16.toNat 3).ln (atL Ws.cs l x16.toNat 3).fn)])]).length.ble
    (inv ok_LI ea_LI
        [(0, false, [C.tr false (T.arr 1 (atL Ws.cs l x16.toNat 3).ln (atL Ws.cs l x16.toNat 3).fn)])]).length &&
  true) <|
  gd ((inv ok_LI ea_LI
          [(0, false, [C.tr false (T.arr 1 (atL Ws.cs l x16.toNat 2).ln (atL Ws.cs l x16.toNat 2).fn)])]).length.ble
    (inv ok_LI ea_LI
        [(0, false, [C.tr false (T.arr 1 (atL Ws.cs l x16.toNat 2).ln (atL Ws.cs l x16.toNat 2).fn)])]).length &&
  true) <|
  gd ((inv ok_LI ea_LI
          [(0, false, [C.tr false (T.arr 1 (atL Ws.cs l x16.toNat 3).ln (atL Ws.cs l x16.toNat 3).fn)])]).length.ble
    (inv ok_LI ea_LI
        [(0, false, [C.tr false (T.arr 1 (atL Ws.cs l x16.toNat 3).ln (atL Ws.cs l x16.toNat 3).fn)])]).length &&
  true) <|
  gd (decide (0 ≤ x16) && (x16.toNat.blt nx12 && true)) <|
  gd ((inv ok_LI ea_LI
          [(0, false, [C.tr false (T.arr 1 (atL Ws.cs l x16.toNat 2).ln (atL Ws.cs l x16.toNat 2).fn)])]).length.ble
    (inv ok_LI ea_LI
        [(0, false, [C.tr false (T.arr 1 (atL Ws.cs l x16.toNat 2).ln (atL Ws.cs l x16.toNat 2).fn)])]).length &&
  true) <|
  gd ((inv ok_LI ea_LI
          [(0, false, [C.tr false (T.arr 1 (atL Ws.cs l x16.toNat 3).ln (atL Ws.cs l x16.toNat 3).fn)])]).length.ble
    (inv ok_LI ea_LI
        [(0, false, [C.tr false (T.arr 1 (atL Ws.cs l x16.toNat 3).ln (atL Ws.cs l x16.toNat 3).fn)])]).length &&
  true) <|
  gd ((0 + x16.toNat).blt nx12 && true && true) <|
  gd ((0 + x16.toNat).blt nx12 && true && true) <|
  gd ((0 + x16.toNat).blt nx12 && true && true) <|
  gd ((0 + x16.toNat).blt nx12 && true && true) <|
  gd ((0 + x16.toNat).blt nx12 && true && true) <|
  K .normal (st_toWsS_1 l (nx12) (setF (0 + x16.toNat) (1 + 1 + 1 + 1) (T.int IntKind.i64 (atL Ws.cs l x16.toNat 4).toI)
  (setF (0 + x16.toNat) (1 + 1 + 1)
    (T.arr 1
      (inv ok_LI ea_LI
          [(0, false, [C.tr false (T.arr 1 (atL Ws.cs l x16.toNat 3).ln (atL Ws.cs l x16.toNat 3).fn)])]).length
      (atL rowI
        (inv ok_LI ea_LI
          [(0, false, [C.tr false (T.arr 1 (atL Ws.cs l x16.toNat 3).ln (atL Ws.cs l x16.toNat 3).fn)])])))
    (setF (0 + x16.toNat) (1 + 1)
      (T.arr 1
        (inv ok_LI ea_LI
            [(0, false, [C.tr false (T.arr 1 (atL Ws.cs l x16.toNat 2).ln (atL Ws.cs l x16.toNat 2).fn)])]).length
        (atL rowI
          (inv ok_LI ea_LI
            [(0, false, [C.tr false (T.arr 1 (atL Ws.cs l x16.toNat 2).ln (atL Ws.cs l x16.toNat 2).fn)])])))
      (setF (0 + x16.toNat) 1 (T.int IntKind.i64 (atL Ws.cs l x16.toNat 1).toI)
        (setF (0 + x16.toNat) 0 (T.int IntKind.i64 (atL Ws.cs l x16.toNat 0).toI) fx12))))) (IntKind.i64.wrap (x16 + 1)))
 else
 K (.exit 0) (ex_toWsS_1_1 l nx12 fx12 x16)) := by kernel_rfl
theorem post_toWsS_1_1 (l : List Ws) (nx12 : Nat) (fx12 : Nat → Nat → T) (x16 : Int) (n : Nat) : contAt prog (tabS [(i_toWs, e_toWs)]) kp_toWsS F_toWsS ts_toWsS [1, 1, 0, 1, 0] [] n (.exit 0) (ex_toWsS_1_1 l nx12 fx12 x16) = (
 gd (nx12.ble nx12 && true) <|
 gd (nx12.ble nx12 && true) <|
 some ([(false, [.tr true (.arr (5) (nx12) (fx12))])], [(false, [])])) := by kernel_rfl
theorem pre_toWsS (l : List Ws) (n : Nat) : body prog (tabS [(i_toWs, e_toWs)]) kp_toWsS n F_toWsS [aT (eL 5 Ws.cs l)] = (
 gd (decide (0 ≤ (↑l.length : Int)) &&
  (decide ((↑l.length : Int) ≤ (↑l.length : Int)) &&
    (((↑l.length : Int).toNat * 72).ble 70368744177664 && (↑l.length : Int).toNat.ble 70368744177664))) <|
 gd ((↑l.length : Int).toNat.ble (↑l.length : Int).toNat && true) <|
 loopAt prog (tabS [(i_toWs, e_toWs)]) kp_toWsS F_toWsS [1, 1, 0, 1, 0] n n (st_toWsS_1 l ((↑l.length : Int).toNat) (cutT 0 (↑l.length : Int).toNat (zeroT prog 163)) (0)) (contAt prog (tabS [(i_toWs, e_toWs)]) kp_toWsS F_toWsS ts_toWsS [1, 1, 0, 1, 0] [] n)) := by kernel_rfl
theorem body_toWsS (l : List Ws) (hl : ok_WsS l) : body prog (tabS [(i_toWs, e_toWs)]) kp_toWsS (l.length + 1) F_toWsS (ea_WsS l) = some (erT 1 (eL 5 Ws.cs l)) := by
  have hl' : l.length ≤ LM := hl.1
  have hlm := lm
  unfold ea_WsS
  rw [pre_toWsS]
  simp only [ge0_d, Int.toNat_natCast, ble_d, Int.le_refl, Nat.le_refl, decide_true, Bool.and_true, Bool.true_and, gd_true]
  rw [decide_eq_true (show l.length * 72 ≤ 70368744177664 by omega), decide_eq_true (show l.length ≤ 70368744177664 by omega)]
  simp only [Bool.and_true, gd_true]
  rw [zero_fill (m := 5) (row := Ws.cs) (d := default) l.length (fun j k => by rcases k with _ | _ | _ | _ | _ | _ <;> kernel_rfl), ← fill_zero l default]
  have hst : st_toWsS_1 l l.length (atL Ws.cs (fill l default 0)) 0 = (fun i : Nat => st_toWsS_1 l l.length (atL Ws.cs (fill l default i)) (i : Nat)) 0 := rfl
  rw [hst, forLoop l.length (fun i : Nat => st_toWsS_1 l l.length (atL Ws.cs (fill l default i)) (i : Nat)) (ex_toWsS_1_1 l l.length (atL Ws.cs l) l.length) 0 (fun i K hi => ?_) (fun K => ?_) _ (Nat.le_refl _)]
  · rw [post_toWsS_1_1]
    simp only [ble_d, Nat.le_refl, decide_true, gd_true, Bool.and_true]
    rfl
  · have hx := List.getElem?_eq_getElem hi
    have h0 := (hl.2 _ (List.getElem_mem hi)).1
    have h1 := (hl.2 _ (List.getElem_mem hi)).2
    have hd : (fill l default i)[i]? = some default := by
      unfold fill
      rw [List.getElem?_append_right (by simp; omega), List.getElem?_replicate, if_pos (by simp; omega)]
    rw [round_toWsS_1]
    simp only [lt_d, ge0_d, Int.toNat_natCast, blt_d, ble_self, beq_self, decide_true, cond_true, Bool.and_self, Bool.and_true, Bool.true_and, gd_true, Nat.zero_add, List.getD_cons_zero, List.getD_cons_succ, isI_int, toI_int, isB_bool, toB_bool, eL_T, arr_ln, arr_fn, arr_wd, arr_is, arr_get, hi, atL_of hx, Ws.cs, dm_toLI h0, iv_toLI h0, dm_toLI h1, iv_toLI h1]
    rw [wrapS (by omega), ← fill_set l default hx]
    congr 3
    refine set_atL (by rw [fill_len l default (by omega)]; exact hi) fun j' k' => ?_
    by_cases e : j' = i
    · subst e
      rcases k' with _ | _ | _ | _ | _ | k' <;> simp [setF_d, Ws.cs, atL_of hd, eL_T]
    · simp [setF_d, e]
  · rw [round_toWsS_1, fill_all]
    simp only [lt_d, Nat.lt_irrefl, decide_false, cond_false]
theorem s_toWsS : EntOk prog i_toWsS e_toWsS := ent_ok ea_WsS_inj fun l hl =>
  body_sound (φ := (tabS [(i_toWs, e_toWs)])) (tabS_cons s_toWs tabS_nil) mixed (kp := kp_toWsS) (n := l.length + 1) func67 (c := bodyOf F_toWsS) (by kernel_rfl) (body_toWsS l hl) (name_ok (by kernel_rfl))

def i_eqWsS : Nat := 72
noncomputable abbrev F_eqWsS : Func := f72
def kp_eqWsS : List (Nat × List Nat) := [(0, [0, 4]), (1, [0, 4, 40]), (2, [16]), (3, [0, 4, 20]), (4, [0, 4, 20, 56]), (5, [0, 4, 20]), (6, [0, 4, 20, 104]), (7, [16]), (8, [16])]
def ts_eqWsS : List Nat := [0, 0]
def st_eqWsS_1 (l r : List Ws) (x20 : Int) : St := [(0, ⟨z0, [(false, [.tr false (eL 5 Ws.cs l)])]⟩), (4, ⟨z0, [(false, [.tr false (eL 5 Ws.cs r)])]⟩), (20, ⟨z0, [(false, [.tr true (T.int IntKind.i64 x20)])]⟩)]
def ex_eqWsS_1_1 (l r : List Ws) (x20 : Int) : St := [(16, ⟨z0, [(false, [.tr true (T.bool false)])]⟩)]
def ex_eqWsS_1_2 (l r : List Ws) (x20 : Int) : St := [(0, ⟨z0, [(false, [.tr false (eL 5 Ws.cs l)])]⟩), (4, ⟨z0, [(false, [.tr false (eL 5 Ws.cs r)])]⟩), (20, ⟨z0, [(false, [.tr true (T.int IntKind.i64 x20)])]⟩), (56, ⟨z0, []⟩)]
theorem round_eqWsS_1 (l r : List Ws) (x20 : Int) (n : Nat) (K : Ex → St → Res) : roundAt prog (tabS [(i_eqWs, e_eqWs)]) kp_eqWsS F_eqWsS [1, 1, 0, 1, 0] n (st_eqWsS_1 l r x20) K = (
 bif decide (x20 < (↑l.length : Int)) then
  gd (decide (0 ≤ x20) && (x20.toNat.blt l.length && true)) <|
  gd (T.isI IntKind.i64 (atL Ws.cs l x20.toNat 0) && T.isI IntKind.i64 (atL Ws.cs l x20.toNat 1) &&
      ((atL Ws.cs l x20.toNat 2).isArr && (atL Ws.cs l x20.toNat 2).wd.beq 1) &&
    ((atL Ws.cs l x20.toNat 3).isArr && (atL Ws.cs l x20.toNat 3).wd.beq 1) &&
  T.isI IntKind.i64 (atL Ws.cs l x20.toNat 4)) <|
  gd (decide (0 ≤ x20) && (x20.toNat.blt r.length && true)) <|
  gd (T.isI IntKind.i64 (atL Ws.cs r x20.toNat 0) && T.isI IntKind.i64 (atL Ws.cs r x20.toNat 1) &&
      ((atL Ws.cs r x20.toNat 2).isArr && (atL Ws.cs r x20.toNat 2).wd.beq 1) &&
    ((atL Ws.cs r x20.toNat 3).isArr && (atL Ws.cs r x20.toNat 3).wd.beq 1) &&
  T.isI IntKind.i64 (atL Ws.cs r x20.toNat 4)) <|
  bif (atL Ws.cs l x20.toNat 0).toI != (atL Ws.cs r x20.toNat 0).toI then
   K .ret (ex_eqWsS_1_1 l r x20)
  else
  bif (atL Ws.cs l x20.toNat 1).toI != (atL Ws.cs r x20.toNat 1).toI then
   K .ret (ex_eqWsS_1_1 l r x20)
  else
  gd (dom ok2_LI ea2_LI
  [(0, false, [C.tr false (T.arr 1 (atL Ws.cs l x20.toNat 2).ln (atL Ws.cs l x20.toNat 2).fn)]),
    (0, false, [C.tr false (T.arr 1 (atL Ws.cs r x20.toNat 2).ln (atL Ws.cs r x20.toNat 2).fn)])]) <|
  bif !f_eqLI
    (inv ok2_LI ea2_LI
      [(0, false, [C.tr false (T.arr 1 (atL Ws.cs l x20.toNat 2).ln (atL Ws.cs l x20.toNat 2).fn)]),
        (0, false, [C.tr false (T.arr 1 (atL Ws.cs r x20.toNat 2).ln (atL Ws.cs r x20.toNat 2).fn)])]) then
   K .ret (ex_eqWsS_1_1 l r x20)
  else
  gd (dom ok2_LI ea2_LI
  [(0, false, [C.tr false (T.arr 1 (atL Ws.cs l x20.toNat 3).ln (atL Ws.cs l x20.toNat 3).fn)]),
    (0, false, [C.tr false (T.arr 1 (atL Ws.cs r x20.toNat 3).ln (atL Ws.cs r x20.toNat 3).fn)])]) <|
  bif !f_eqLI
    (inv ok2_LI ea2_LI
      [(0, false, [C.tr false (T.arr 1 (atL Ws.cs l x20.toNat 3).ln (atL Ws.cs l x20.toNat 3).fn)]),
        (0, false, [C.tr false (T.arr 1 (atL Ws.cs r x20.toNat 3).ln (atL Ws.cs r x20.toNat 3).fn)])]) then
   K .ret (ex_eqWsS_1_1 l r x20)
  else
  bif (atL Ws.cs l x20.toNat 4).toI != (atL Ws.cs r x20.toNat 4).toI then
   K .ret (ex_eqWsS_1_1 l r x20)
  else
  K .normal (st_eqWsS_1 l r (IntKind.i64.wrap (x20 + 1)))
 else
 K (.exit 0) (ex_eqWsS_1_2 l r x20)) := by kernel_rfl
theorem post_eqWsS_1_1 (l r : List Ws) (x20 : Int) (n : Nat) : contAt prog (tabS [(i_eqWs, e_eqWs)]) kp_eqWsS F_eqWsS ts_eqWsS [1, 1, 0, 1, 0] [] n .ret (ex_eqWsS_1_1 l r x20) = (
 some ([(false, [.tr true (T.bool false)])], [(false, []), (false, [])])) := by kernel_rfl
theorem post_eqWsS_1_2 (l r : List Ws) (x20 : Int) (n : Nat) : contAt prog (tabS [(i_eqWs, e_eqWs)]) kp_eqWsS F_eqWsS ts_eqWsS [1, 1, 0, 1, 0] [] n (.exit 0) (ex_eqWsS_1_2 l r x20) = (
 some ([(false, [.tr true (T.bool true)])], [(false, []), (false, [])])) := by kernel_rfl
theorem pre_eqWsS (l r : List Ws) (n : Nat) : body prog (tabS [(i_eqWs, e_eqWs)]) kp_eqWsS n F_eqWsS [aT (eL 5 Ws.cs l), aT (eL 5 Ws.cs r)] = (
 bif (↑l.length : Int) != (↑r.length : Int) then
  some ([(false, [.tr true (T.bool false)])], [(false, []), (false, [])])
 else
 loopAt prog (tabS [(i_eqWs, e_eqWs)]) kp_eqWsS F_eqWsS [1, 1, 0, 1, 0] n n (st_eqWsS_1 l r (0)) (contAt prog (tabS [(i_eqWs, e_eqWs)]) kp_eqWsS F_eqWsS ts_eqWsS [1, 1, 0, 1, 0] [] n)) := by kernel_rfl
theorem body_eqWsS (l r : List Ws) (hl : okq_WsS l) : body prog (tabS [(i_eqWs, e_eqWs)]) kp_eqWsS (l.length + 1) F_eqWsS (ea2_WsS (l, r)) = some (erB 2 (f_eqWsS (l, r))) := by
  have hbm := bm
  have hl' : l.length ≤ BM := hl.1
  unfold ea2_WsS f_eqWsS
  dsimp only
  rw [pre_eqWsS, int_ne]
  by_cases h : l.length = r.length
  · rw [decide_eq_true (by omega)]
    simp only [Bool.not_true, cond_false]
    have hst : st_eqWsS_1 l r 0 = (fun i : Nat => st_eqWsS_1 l r (i : Nat)) 0 := rfl
    rw [hst, eqS l r h (fun i : Nat => st_eqWsS_1 l r (i : Nat)) (fun i : Nat => ex_eqWsS_1_1 l r (i : Nat)) (ex_eqWsS_1_2 l r l.length) (fun i x y K hx hy => ?_) (fun K => ?_) (fun i => post_eqWsS_1_1 l r _ _) (post_eqWsS_1_2 l r _ _) _ (Nat.le_refl _)]
    · by_cases e : l = r
      · rw [if_pos e, decide_eq_true e]; rfl
      · rw [if_neg e, decide_eq_false e]; rfl
    · have hi := (List.getElem?_eq_some_iff.1 hx).1
      have hi' := (List.getElem?_eq_some_iff.1 hy).1
      have hxm : x ∈ l := List.mem_of_getElem? hx
      have h0 := (hl.2 _ hxm).1
      have h1 := (hl.2 _ hxm).2
      rw [round_eqWsS_1]
      simp only [lt_d, ge0_d, Int.toNat_natCast, blt_d, ble_self, beq_self, decide_true, cond_true, Bool.and_self, Bool.and_true, Bool.true_and, gd_true, Nat.zero_add, List.getD_cons_zero, List.getD_cons_succ, isI_int, toI_int, isB_bool, toB_bool, eL_T, arr_ln, arr_fn, arr_wd, arr_is, arr_get, hi, hi', atL_of hx, atL_of hy, Ws.cs, int_ne, bool_ne, bool_eq, dm_eqLI h0, iv_eqLI h0, d_eqLI, dm_eqLI h1, iv_eqLI h1, d_eqLI, chain]
      rw [wrapS (by omega)]
      have hxy : (x.slot = y.slot ∧ x.first = y.first ∧ x.tags = y.tags ∧ x.chunks = y.chunks ∧ x.done = y.done) ↔ x = y := by
        rcases x with ⟨x0, x1, x2, x3, x4⟩
        rcases y with ⟨y0, y1, y2, y3, y4⟩
        simp [and_assoc]
      simp only [hxy]
    · rw [round_eqWsS_1]
      simp only [lt_d, Nat.lt_irrefl, decide_false, cond_false]
  · rw [decide_eq_false (by omega)]
    have : ¬ l = r := fun e => h (by rw [e])
    rw [decide_eq_false this]
    rfl
theorem s_eqWsS : EntOk prog i_eqWsS e_eqWsS := ent_ok ea2_WsS_inj fun x hx =>
  body_sound (φ := (tabS [(i_eqWs, e_eqWs)])) (tabS_cons s_eqWs tabS_nil) mixed (kp := kp_eqWsS) (n := x.1.length + 1) func72 (c := bodyOf F_eqWsS) (by kernel_rfl) (body_eqWsS x.1 x.2 hx) (name_ok (by kernel_rfl))

theorem dm_toWsS {l : List Ws} (h : ok_WsS l) : dom ok_WsS ea_WsS [(0, false, [C.tr false (T.arr 5 l.length (atL Ws.cs l))])] = true := dom_ea (ea := ea_WsS) (x := l) h
theorem iv_toWsS {l : List Ws} (h : ok_WsS l) : inv ok_WsS ea_WsS [(0, false, [C.tr false (T.arr 5 l.length (atL Ws.cs l))])] = l := inv_ea ea_WsS_inj (x := l) h
theorem dm_eqWsS {l r : List Ws} (h : okq_WsS l) : dom ok2_WsS ea2_WsS [(0, false, [C.tr false (T.arr 5 l.length (atL Ws.cs l))]), (0, false, [C.tr false (T.arr 5 r.length (atL Ws.cs r))])] = true := dom_ea (ea := ea2_WsS) (x := (l, r)) h
theorem iv_eqWsS {l r : List Ws} (h : okq_WsS l) : inv ok2_WsS ea2_WsS [(0, false, [C.tr false (T.arr 5 l.length (atL Ws.cs l))]), (0, false, [C.tr false (T.arr 5 r.length (atL Ws.cs r))])] = (l, r) := inv_ea ea2_WsS_inj (x := (l, r)) h
theorem d_eqWsS (l r : List Ws) : f_eqWsS (l, r) = decide (l = r) := rfl
def n1_WsS (x : Ws) : Nat := n_LI x.tags + n_LI x.chunks
def n_WsS (l : List Ws) : Nat := l.length + cntL n1_WsS l
def okz_WsS (l : List Ws) : Prop := l.length ≤ ZM ∧ ∀ x ∈ l, okz_LI x.tags ∧ okz_LI x.chunks
def okzz_WsS (x : List Ws × Int) : Prop := okz_WsS x.1 ∧ 0 ≤ x.2 ∧ x.2 ≤ LM
def eaz_WsS (x : List Ws × Int) : List Arg := [aT (eL 5 Ws.cs x.1), aI x.2]
def f_szWsS (x : List Ws × Int) : Int := if (n_WsS x.1 : Int) ≤ x.2 then x.2 - n_WsS x.1 else -1
noncomputable def e_szWsS : Ent := ent [] okzz_WsS eaz_WsS (erI 2) f_szWsS
theorem eaz_WsS_inj (x y : List Ws × Int) (h : eaz_WsS x = eaz_WsS y) : x = y := by
  simp only [eaz_WsS, aI, aT, List.cons.injEq, Prod.mk.injEq, true_and, and_true, C.tr.injEq, T.int.injEq] at h
  exact Prod.ext (eL_inj Ws.cs_inj h.1) h.2
theorem dm_szWsS {l : List Ws} {k : Int} (h : okzz_WsS (l, k)) : dom okzz_WsS eaz_WsS [(0, false, [C.tr false (T.arr 5 l.length (atL Ws.cs l))]), (0, false, [C.tr false (T.int IntKind.i64 k)])] = true := dom_ea (ea := eaz_WsS) (x := (l, k)) h
theorem iv_szWsS {l : List Ws} {k : Int} (h : okzz_WsS (l, k)) : inv okzz_WsS eaz_WsS [(0, false, [C.tr false (T.arr 5 l.length (atL Ws.cs l))]), (0, false, [C.tr false (T.int IntKind.i64 k)])] = (l, k) := inv_ea eaz_WsS_inj (x := (l, k)) h
theorem y_szWsS {l : List Ws} {k : Int} (h : (n_WsS l : Int) ≤ k) : f_szWsS (l, k) = k - n_WsS l := if_pos h
theorem n_szWsS {l : List Ws} {k : Int} (h : ¬ (n_WsS l : Int) ≤ k) : f_szWsS (l, k) = -1 := if_neg h
def i_szWsS : Nat := 62
noncomputable abbrev F_szWsS : Func := f62
def kp_szWsS : List (Nat × List Nat) := [(0, [0, 4]), (1, [0, 4]), (2, [0, 4, 44]), (3, [16]), (4, [0, 4, 20]), (5, [0, 4, 20, 60]), (6, [0, 4, 20]), (7, [0, 4, 20]), (8, [0, 4, 20, 100]), (9, [16]), (10, [16])]
def ts_szWsS : List Nat := [0, 0]
def st_szWsS_1 (l : List Ws) (k : Int) (x4 : Int) (x20 : Int) : St := [(0, ⟨z0, [(false, [.tr false (eL 5 Ws.cs l)])]⟩), (4, ⟨z0, [(false, [.tr true (T.int IntKind.i64 x4)])]⟩), (20, ⟨z0, [(false, [.tr true (T.int IntKind.i64 x20)])]⟩)]
def ex_szWsS_1_1 (l : List Ws) (k : Int) (x4 : Int) (x20 : Int) : St := [(16, ⟨z0, [(false, [.tr true (T.int IntKind.i64 (-1))])]⟩)]
def ex_szWsS_1_2 (l : List Ws) (k : Int) (x4 : Int) (x20 : Int) : St := [(0, ⟨z0, [(false, [.tr false (eL 5 Ws.cs l)])]⟩), (4, ⟨z0, [(false, [.tr true (T.int IntKind.i64 x4)])]⟩), (20, ⟨z0, [(false, [.tr true (T.int IntKind.i64 x20)])]⟩), (60, ⟨z0, []⟩)]
theorem round_szWsS_1 (l : List Ws) (k : Int) (x4 : Int) (x20 : Int) (n : Nat) (K : Ex → St → Res) : roundAt prog (tabS [(i_szWs, e_szWs)]) kp_szWsS F_szWsS [1, 1, 1, 0, 1, 0] n (st_szWsS_1 l k x4 x20) K = (
 bif decide (x20 < (↑l.length : Int)) then
  gd (decide (0 ≤ x20) && (x20.toNat.blt l.length && true)) <|
  gd (T.isI IntKind.i64 (atL Ws.cs l x20.toNat 0) && T.isI IntKind.i64 (atL Ws.cs l x20.toNat 1) &&
      ((atL Ws.cs l x20.toNat 2).isArr && (atL Ws.cs l x20.toNat 2).wd.beq 1) &&
    ((atL Ws.cs l x20.toNat 3).isArr && (atL Ws.cs l x20.toNat 3).wd.beq 1) &&
  T.isI IntKind.i64 (atL Ws.cs l x20.toNat 4)) <|
  bif decide (IntKind.i64.wrap (x4 - (↑(atL Ws.cs l x20.toNat 2).ln : Int)) < 0) then
   K .ret (ex_szWsS_1_1 l k x4 x20)
  else
  bif decide (IntKind.i64.wrap (x4 - (↑(atL Ws.cs l x20.toNat 2).ln : Int)) < 0) then
   K .ret (ex_szWsS_1_1 l k x4 x20)
  else
  bif decide
  (IntKind.i64.wrap
      (IntKind.i64.wrap (x4 - (↑(atL Ws.cs l x20.toNat 2).ln : Int)) - (↑(atL Ws.cs l x20.toNat 3).ln : Int)) <
    0) then
   K .ret (ex_szWsS_1_1 l k x4 x20)
  else
  bif decide
  (IntKind.i64.wrap
      (IntKind.i64.wrap (x4 - (↑(atL Ws.cs l x20.toNat 2).ln : Int)) - (↑(atL Ws.cs l x20.toNat 3).ln : Int)) <
    0) then
   K .ret (ex_szWsS_1_1 l k x4 x20)
  else
  bif decide
  (IntKind.i64.wrap
      (IntKind.i64.wrap (x4 - (↑(atL Ws.cs l x20.toNat 2).ln : Int)) - (↑(atL Ws.cs l x20.toNat 3).ln : Int)) <
    0) then
   K .ret (ex_szWsS_1_1 l k x4 x20)
  else
  K .normal (st_szWsS_1 l k (IntKind.i64.wrap
  (IntKind.i64.wrap (x4 - (↑(atL Ws.cs l x20.toNat 2).ln : Int)) - (↑(atL Ws.cs l x20.toNat 3).ln : Int))) (IntKind.i64.wrap (x20 + 1)))
 else
 K (.exit 0) (ex_szWsS_1_2 l k x4 x20)) := by kernel_rfl
theorem post_szWsS_1_1 (l : List Ws) (k : Int) (x4 : Int) (x20 : Int) (n : Nat) : contAt prog (tabS [(i_szWs, e_szWs)]) kp_szWsS F_szWsS ts_szWsS [1, 1, 1, 0, 1, 0] [] n .ret (ex_szWsS_1_1 l k x4 x20) = (
 some ([(false, [.tr true (T.int IntKind.i64 (-1))])], [(false, []), (false, [])])) := by kernel_rfl
theorem post_szWsS_1_2 (l : List Ws) (k : Int) (x4 : Int) (x20 : Int) (n : Nat) : contAt prog (tabS [(i_szWs, e_szWs)]) kp_szWsS F_szWsS ts_szWsS [1, 1, 1, 0, 1, 0] [] n (.exit 0) (ex_szWsS_1_2 l k x4 x20) = (
 some ([(false, [.tr true (T.int IntKind.i64 x4)])], [(false, []), (false, [])])) := by kernel_rfl
theorem pre_szWsS (l : List Ws) (k : Int) (n : Nat) : body prog (tabS [(i_szWs, e_szWs)]) kp_szWsS n F_szWsS [aT (eL 5 Ws.cs l), aI k] = (
 bif decide (IntKind.i64.wrap (k - (↑l.length : Int)) < 0) then
  some ([(false, [.tr true (T.int IntKind.i64 (-1))])], [(false, []), (false, [])])
 else
 loopAt prog (tabS [(i_szWs, e_szWs)]) kp_szWsS F_szWsS [1, 1, 1, 0, 1, 0] n n (st_szWsS_1 l k (IntKind.i64.wrap (k - (↑l.length : Int))) (0)) (contAt prog (tabS [(i_szWs, e_szWs)]) kp_szWsS F_szWsS ts_szWsS [1, 1, 1, 0, 1, 0] [] n)) := by kernel_rfl
theorem round1_szWsS (l : List Ws) (k : Int) (hl : okz_WsS l) {n : Nat} (i : Nat) (x : Ws) (K : Ex → St → Res) (hx : l[i]? = some x) (hr : (cntL n1_WsS (l.take i) : Int) ≤ k - (l.length : Int)) (hk1 : k ≤ LM) : roundAt prog (tabS [(i_szWs, e_szWs)]) kp_szWsS F_szWsS [1, 1, 1, 0, 1, 0] n (st_szWsS_1 l k (k - (l.length : Int) - cntL n1_WsS (l.take i)) (i : Nat)) K = bif decide (k - (l.length : Int) - cntL n1_WsS (l.take i) < n1_WsS x) then K .ret (ex_szWsS_1_1 l k (k - (l.length : Int) - cntL n1_WsS (l.take i)) (i : Nat)) else K .normal (st_szWsS_1 l k (k - (l.length : Int) - cntL n1_WsS (l.take (i + 1))) ((i + 1 : Nat) : Int)) := by
    have hzm := zm
    have hlm := lm
    have hl' : l.length ≤ ZM := hl.1
    have hi := (List.getElem?_eq_some_iff.1 hx).1
    have hxm : x ∈ l := List.mem_of_getElem? hx
    have hc := cntL_take n1_WsS l hx
    have hcx : n1_WsS x = x.tags.length + x.chunks.length := rfl
    rw [hc, round_szWsS_1]
    obtain ⟨k0, hk⟩ : ∃ k0, k0 = k - (l.length : Int) - (cntL n1_WsS (l.take i) : Int) := ⟨_, rfl⟩
    have hk2 : k - (l.length : Int) - ((cntL n1_WsS (l.take i) + n1_WsS x : Nat) : Int) = k0 - (x.tags.length : Int) - (x.chunks.length : Int) := by omega
    rw [hk2, ← hk]
    have hk3 : 0 ≤ k0 := by omega
    have hk4 : k0 ≤ LM := by omega
    simp (disch := omega) only [lt_d, ge0_d, Int.toNat_natCast, blt_d, ble_self, beq_self, decide_true, cond_true, Bool.and_self, Bool.and_true, Bool.true_and, gd_true, Nat.zero_add, List.getD_cons_zero, List.getD_cons_succ, isI_int, toI_int, isB_bool, toB_bool, eL_T, arr_ln, arr_fn, arr_wd, arr_is, arr_get, hi, atL_of hx, Ws.cs, wrapS]
    have h0 : x.tags.length ≤ ZM := (hl.2 _ hxm).1
    have h1 : x.chunks.length ≤ ZM := (hl.2 _ hxm).2
    try simp (disch := omega) only [wrapI]
    by_cases e0 : k0 - (x.tags.length : Int) < 0
    case pos =>
      rw [decide_eq_true e0, decide_eq_true (show k0 < (n1_WsS x : Int) by omega)]
      rfl
    simp (disch := omega) only [decide_eq_false e0, cond_false, wrapI]
    try simp (disch := omega) only [wrapI]
    by_cases e1 : k0 - (x.tags.length : Int) - (x.chunks.length : Int) < 0
    case pos =>
      rw [decide_eq_true e1, decide_eq_true (show k0 < (n1_WsS x : Int) by omega)]
      rfl
    simp (disch := omega) only [decide_eq_false e1, cond_false, wrapI]
    rw [decide_eq_false (show ¬ k0 < (n1_WsS x : Int) by omega)]
    simp only [cond_false]
    try congr 2
    try omega
theorem body_szWsS (l : List Ws) (k : Int) (h : okzz_WsS (l, k)) : body prog (tabS [(i_szWs, e_szWs)]) kp_szWsS (l.length + 1) F_szWsS (eaz_WsS (l, k)) = some (erI 2 (f_szWsS (l, k))) := by
  obtain ⟨hl, hk0, hk1⟩ := h
  have hzm := zm
  have hlm := lm
  dsimp only at hl hk0 hk1
  have hl' : l.length ≤ ZM := hl.1
  have hn : n_WsS l = l.length + cntL n1_WsS l := rfl
  unfold eaz_WsS f_szWsS
  dsimp only
  rw [pre_szWsS]
  simp (disch := omega) only [wrapI]
  by_cases hs : k - (l.length : Int) < 0
  · rw [decide_eq_true hs, if_neg (by omega)]
    rfl
  · rw [decide_eq_false hs]
    simp only [cond_false]
    have hst : st_szWsS_1 l k (k - (l.length : Int)) 0 = (fun i : Nat => st_szWsS_1 l k (k - (l.length : Int) - cntL n1_WsS (l.take i)) (i : Nat)) 0 := by simp [cntL]
    rw [hst, szS n1_WsS l (k - (l.length : Int)) (by omega) (fun i : Nat => st_szWsS_1 l k (k - (l.length : Int) - cntL n1_WsS (l.take i)) (i : Nat)) (fun i : Nat => ex_szWsS_1_1 l k (k - (l.length : Int) - cntL n1_WsS (l.take i)) (i : Nat)) (ex_szWsS_1_2 l k (k - (l.length : Int) - cntL n1_WsS l) l.length) (fun i x K hx hr => ?_) (fun K hr => ?_) (fun i => post_szWsS_1_1 l k _ _ _) (post_szWsS_1_2 l k _ _ _) _ (Nat.le_refl _)]
    · by_cases hq : (cntL n1_WsS l : Int) ≤ k - (l.length : Int)
      · rw [if_pos hq, if_pos (by omega), show k - (l.length : Int) - (cntL n1_WsS l : Int) = k - (n_WsS l : Int) by omega]
        rfl
      · rw [if_neg hq, if_neg (by omega)]
        rfl
    · exact round1_szWsS l k hl i x K hx hr hk1
    · rw [round_szWsS_1]
      simp only [lt_d, Nat.lt_irrefl, decide_false, cond_false, List.take_length]
theorem s_szWsS : EntOk prog i_szWsS e_szWsS := ent_ok eaz_WsS_inj fun x hx =>
  body_sound (φ := (tabS [(i_szWs, e_szWs)])) (tabS_cons s_szWs tabS_nil) mixed (kp := kp_szWsS) (n := x.1.length + 1) func62 (c := bodyOf F_szWsS) (by kernel_rfl) (body_szWsS x.1 x.2 hx) (name_ok (by kernel_rfl))

end Go.Mach.F