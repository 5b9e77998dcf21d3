/- Lemmas and definitions of the proof (Fd Wa Xa Xc Xd Cn Co Rb Rc Rj Vc Tb Vx Ka Kb Tc Ub La Lb). Conditions: none. -/
import Derived.Test.YtefcnddlkdfjmaaZ2
set_option linter.all false
namespace Go.Mach.F
open Go Go.Mach Go.Proofs.Try
--=set_option maxRecDepth 100000
theorem Nd.cs_inj (x y : Nd) (h : ∀ k, x.cs.getD k .hole = y.cs.getD k .hole) : x = y := by
  have h0 := h 0; have h1 := h 1; have h2 := h 2; have h3 := h 3; have h4 := h 4; have h5 := h 5; have h6 := h 6; have h7 := h 7; have h8 := h 8; have h9 := h 9; have h10 := h 10; have h11 := h 11; have h12 := h 12
  rcases x with ⟨x0, x1, x2, x3, x4, x5, x6, x7, x8, x9, x10, x11, x12⟩
  rcases y with ⟨y0, y1, y2, y3, y4, y5, y6, y7, y8, y9, y10, y11, y12⟩
  simp only [Nd.cs, List.getD_cons_zero, List.getD_cons_succ, T.int.injEq, T.bool.injEq, true_and] at h0 h1 h2 h3 h4 h5 h6 h7 h8 h9 h10 h11 h12
  replace h8 := eI_inj h8
  replace h11 := eL_inj Th.cs_inj h11
  replace h12 := eI_inj h12
  subst h0; subst h1; subst h2; subst h3; subst h4; subst h5; subst h6; subst h7; subst h8; subst h9; subst h10; subst h11; subst h12
  rfl
def i_toNd : Nat := 139
noncomputable abbrev F_toNd : Func := f139
def kp_toNd : List (Nat × List Nat) := [(0, [4, 5, 8, 9, 12, 13, 184]), (1, [4, 5, 8, 9, 12, 13, 184]), (2, [4, 5, 8, 9, 12, 13, 184]), (3, [4, 5, 8, 9, 12, 13, 184]), (4, [4, 5, 8, 9, 12, 13, 184]), (5, [4, 5, 8, 9, 12, 13, 184]), (6, [4, 5, 8, 9, 12, 13, 184]), (7, [4, 5, 8, 9, 12, 13, 184]), (8, [4, 5, 8, 9, 12, 13, 184]), (9, [4, 5, 8, 9, 12, 13, 184]), (10, [4, 5, 8, 9, 12, 13, 184]), (11, [4, 5, 8, 9, 12, 13, 184]), (12, [4, 5, 8, 9, 12, 13, 184]), (13, [4, 5, 8, 9, 12, 13, 184]), (14, [8, 9, 12, 13, 184]), (15, [8, 9, 12, 13, 184])]
noncomputable def e_toNd : Ent := inl [] prog (tabS [(i_toLI, e_toLI), (i_toThS, e_toThS)]) kp_toNd 0 F_toNd
theorem s_toNd : EntOk prog i_toNd e_toNd := inl_ok (tabS_cons s_toLI (tabS_cons s_toThS tabS_nil)) mixed (c := bodyOf F_toNd) func139 (by kernel_rfl) (name_ok (by kernel_rfl))
def i_eqNd : Nat := 145
noncomputable abbrev F_eqNd : Func := f145
def kp_eqNd : List (Nat × List Nat) := [(0, [8, 9, 12, 13]), (1, [8, 9, 12, 13, 36]), (2, [16]), (3, [8, 9, 12, 13, 56]), (4, [16]), (5, [8, 9, 12, 13, 76]), (6, [16]), (7, [8, 9, 12, 13, 96]), (8, [16]), (9, [8, 9, 12, 13, 116]), (10, [16]), (11, [8, 9, 12, 13, 136]), (12, [16]), (13, [8, 9, 12, 13, 156]), (14, [16]), (15, [8, 9, 12, 13, 176]), (16, [16]), (17, [8, 9, 12, 13, 200]), (18, [16]), (19, [8, 9, 12, 13, 220]), (20, [16]), (21, [8, 9, 12, 13, 240]), (22, [16]), (23, [8, 9, 12, 13, 264]), (24, [16]), (25, [288]), (26, [16]), (27, [16])]
noncomputable def e_eqNd : Ent := inl [] prog (tabS [(i_eqLI, e_eqLI), (i_eqThS, e_eqThS)]) kp_eqNd 0 F_eqNd
theorem s_eqNd : EntOk prog i_eqNd e_eqNd := inl_ok (tabS_cons s_eqLI (tabS_cons s_eqThS tabS_nil)) mixed (c := bodyOf F_eqNd) func145 (by kernel_rfl) (name_ok (by kernel_rfl))
def i_szNd : Nat := 133
noncomputable abbrev F_szNd : Func := f133
def kp_szNd : List (Nat × List Nat) := [(0, [4, 8, 9]), (1, [4, 8, 9]), (2, [4, 8, 9, 40]), (3, [16]), (4, [4, 8, 9]), (5, [4, 8, 9, 64]), (6, [16]), (7, [4]), (8, [4, 88]), (9, [16]), (10, [16])]
noncomputable def e_szNd : Ent := inl [] prog (tabS [(i_szLI, e_szLI), (i_szThS, e_szThS)]) kp_szNd 0 F_szNd
theorem s_szNd : EntOk prog i_szNd e_szNd := inl_ok (tabS_cons s_szLI (tabS_cons s_szThS tabS_nil)) mixed (c := bodyOf F_szNd) func133 (by kernel_rfl) (name_ok (by kernel_rfl))
def ok_NdS (l : List Nd) : Prop := l.length ≤ LM ∧ ∀ x ∈ l, ok_LI x.chunks ∧ ok_ThS x.things ∧ ok_LI x.tags
def ea_NdS (l : List Nd) : List Arg := [aT (eL 13 Nd.cs l)]
noncomputable def e_toNdS : Ent := ent [] ok_NdS ea_NdS (fun l => erT 1 (eL 13 Nd.cs l)) fun l => l
def okq_NdS (l : List Nd) : Prop := l.length ≤ BM ∧ ∀ x ∈ l, okq_LI x.chunks ∧ okq_ThS x.things ∧ okq_LI x.tags
def ok2_NdS (x : List Nd × List Nd) : Prop := okq_NdS x.1
def ea2_NdS (x : List Nd × List Nd) : List Arg := [aT (eL 13 Nd.cs x.1), aT (eL 13 Nd.cs x.2)]
def f_eqNdS (x : List Nd × List Nd) : Bool := decide (x.1 = x.2)
noncomputable def e_eqNdS : Ent := ent [] ok2_NdS ea2_NdS (erB 2) f_eqNdS
theorem ea_NdS_inj (x y : List Nd) (h : ea_NdS x = ea_NdS y) : x = y := by
  simp only [ea_NdS, aT, List.cons.injEq, Prod.mk.injEq, true_and, and_true, C.tr.injEq] at h
  exact eL_inj Nd.cs_inj h
theorem ea2_NdS_inj (x y : List Nd × List Nd) (h : ea2_NdS x = ea2_NdS y) : x = y := by
  simp only [ea2_NdS, aT, List.cons.injEq, Prod.mk.injEq, true_and, and_true, C.tr.injEq] at h
  exact Prod.ext (eL_inj Nd.cs_inj h.1) (eL_inj Nd.cs_inj h.2)
def i_toNdS : Nat := 78
noncomputable abbrev F_toNdS : Func := f78
def kp_toNdS : List (Nat × List Nat) := [(0, [0]), (1, [0, 12]), (2, [0, 12, 16]), (3, [0, 12, 16, 44]), (4, [0, 12, 16]), (5, [0, 12, 16]), (6, [8])]
def ts_toNdS : List Nat := [0]
def st_toNdS_1 (l : List Nd) (nx12 : Nat) (fx12 : Nat → Nat → T) (x16 : Int) : St := [(0, ⟨z0, [(false, [.tr false (eL 13 Nd.cs l)])]⟩), (12, ⟨z0, [(false, [.tr true (.arr (13) (nx12) (fx12))])]⟩), (16, ⟨z0, [(false, [.tr true (T.int IntKind.i64 x16)])]⟩)]
def ex_toNdS_1_1 (l : List Nd) (nx12 : Nat) (fx12 : Nat → Nat → T) (x16 : Int) : St := [(0, ⟨z0, [(false, [.tr false (eL 13 Nd.cs l)])]⟩), (12, ⟨z0, [(false, [.tr true (.arr (13) (nx12) (fx12))])]⟩), (16, ⟨z0, [(false, [.tr true (T.int IntKind.i64 x16)])]⟩), (44, ⟨z0, []⟩)]
theorem round_toNdS_1 (l : List Nd) (nx12 : Nat) (fx12 : Nat → Nat → T) (x16 : Int) (n : Nat) (K : Ex → St → Res) : roundAt prog (tabS [(i_toNd, e_toNd)]) kp_toNdS F_toNdS [1, 1, 0, 1, 0] n (st_toNdS_1 l nx12 fx12 x16) K = (
 bif decide (x16 < (↑l.length : Int)) then
  gd (decide (0 ≤ x16) && (x16.toNat.blt l.length && true)) <|
  gd (T.isI IntKind.i64 (atL Nd.cs l x16.toNat 0) && T.isI IntKind.i64 (atL Nd.cs l x16.toNat 1) &&
                      T.isI IntKind.i64 (atL Nd.cs l x16.toNat 2) &&
                    T.isI IntKind.i64 (atL Nd.cs l x16.toNat 3) &&
                  T.isI IntKind.i64 (atL Nd.cs l x16.toNat 4) &&
                T.isI IntKind.i64 (atL Nd.cs l x16.toNat 5) &&
              T.isI IntKind.i64 (atL Nd.cs l x16.toNat 6) &&
            T.isI IntKind.i64 (atL Nd.cs l x16.toNat 7) &&
          ((atL Nd.cs l x16.toNat 8).isArr && (atL Nd.cs l x16.toNat 8).wd.beq 1) &&
        T.isI IntKind.i64 (atL Nd.cs l x16.toNat 9) &&
      T.isI IntKind.i64 (atL Nd.cs l x16.toNat 10) &&
    ((atL Nd.cs l x16.toNat 11).isArr && (atL Nd.cs l x16.toNat 11).wd.beq 3) &&
  ((atL Nd.cs l x16.toNat 12).isArr && (atL Nd.cs l x16.toNat 12).wd.beq 1)) <|
  gd (dom ok_LI ea_LI [(0, false, [C.tr false (T.arr 1 (atL Nd.cs l x16.toNat 8).ln (atL Nd.cs l x16.toNat 8).fn)])]) <|
  gd ((inv ok_LI ea_LI
          [(0, false, [C.tr false (T.arr 1 (atL Nd.cs l x16.toNat 8).ln (atL Nd.cs l x16.toNat 8).fn)])]).length.ble
    (inv ok_LI ea_LI
        [(0, false, [C.tr false (T.arr 1 (atL Nd.cs l x16.toNat 8).ln (atL Nd.cs l x16.toNat 8).fn)])]).length &&
  true) <|
  gd (dom ok_ThS ea_ThS [(0, false, [C.tr false (T.arr 3 (atL Nd.cs l x16.toNat 11).ln (atL Nd.cs l x16.toNat 11).fn)])]) <|
  gd ((inv ok_ThS ea_ThS
          [(0, false, [C.tr false (T.arr 3 (atL Nd.cs l x16.toNat 11).ln (atL Nd.cs l x16.toNat 11).fn)])]).length.ble
    (inv ok_ThS ea_ThS
        [(0, false, [C.tr false (T.arr 3 (atL Nd.cs l x16.toNat 11).ln (atL Nd.cs l x16.toNat 11).fn)])]).length &&
  true) <|
  gd (dom ok_LI ea_LI [(0, false, [C.tr false (T.arr 1 (atL Nd.cs l x16.toNat 12).ln (atL Nd.cs l x16.toNat 12).fn)])]) <|
  gd ((inv ok_LI ea_LI
          [(0, false, [C.tr false (T.arr 1 (atL Nd.cs l x16.toNat 12).ln (atL Nd.cs l x16.toNat 12).fn)])]).length.ble
    (inv ok_LI ea_LI
        [(0, false, [C.tr false (T.arr 1 (atL Nd.cs l x16.toNat 12).ln (atL Nd.cs l x16.toNat 12).fn)])]).length &&
  true) <|
  gd ((inv ok_LI ea_LI
          [(0, false, [C.tr false (T.arr 1 (atL Nd.cs l x16.toNat 8).ln (atL Nd.cs l x16.toNat 8).fn)])]).length.ble
    (inv ok_LI ea_LI
        [(0, false, [C.tr false (T.arr 1 (atL Nd.cs l x16.toNat 8).ln (atL Nd.cs l x16.toNat 8).fn)])]).length &&
  true) <|
  gd ((inv ok_ThS ea_ThS
          [(0, false, [C.tr false (T.arr 3 (atL Nd.cs l x16.toNat 11).ln (atL Nd.cs l x16.toNat 11).fn)])]).length.ble
    (inv ok_ThS ea_ThS
        [(0, false, [C.tr false (T.arr 3 (atL Nd.cs l x16.toNat 11).ln (atL Nd.cs l x16.toNat 11).fn)])]).length &&
  true) <|
  gd ((inv ok_LI ea_LI
          [(0, false, [C.tr false (T.arr 1 (atL Nd.cs l x16.toNat 12).ln (atL Nd.cs l x16.toNat 12).fn)])]).length.ble
    (inv ok_LI ea_LI
        [(0, false, [C.tr false (T.arr 1 (atL Nd.cs l x16.toNat 12).ln (atL Nd.cs l x16.toNat 12).fn)])]).length &&
  true) <|
  gd ((inv ok_LI ea_LI
          [(0, false, [C.tr false (T.arr 1 (atL Nd.cs l x16.toNat 8).ln (atL Nd.cs l x16.toNat 8).fn)])]).length.ble
    (inv ok_LI ea_LI
        [(0, false, [C.tr false (T.arr 1 (atL Nd.cs l x16.toNat 8).ln (atL Nd.cs l x16.toNat 8).fn)])]).length &&
  true) <|
  gd ((inv ok_ThS ea_ThS
          [(0, false, [C.tr false (T.arr 3 (atL Nd.cs l x16.toNat 11).ln (atL Nd.cs l x16.toNat 11).fn)])]).length.ble
    (inv ok_ThS ea_ThS
        [(0, false, [C.tr false (T.arr 3 (atL Nd.cs l x16.toNat 11).ln (atL Nd.cs l x16.toNat 11).fn)])]).length &&
  true) <|
  gd ((inv ok_LI ea_LI
          [(0, false, [C.tr false (T.arr 1 (atL Nd.cs l x16.toNat 12).ln (atL Nd.cs l x16.toNat 12).fn)])]).length.ble
    (inv ok_LI ea_LI
        [(0, false, [C.tr false (T.arr 1 (atL Nd.cs l x16.toNat 12).ln (atL Nd.cs l x16.toNat 12).fn)])]).length &&
  true) <|
  gd (decide (0 ≤ x16) && (x16.toNat.blt nx12 && true)) <|
  gd ((inv ok_LI ea_LI
          [(0, false, [C.tr false (T.arr 1 (atL Nd.cs l x16.toNat 8).ln (atL Nd.cs l x16.toNat 8).fn)])]).length.ble
    (inv ok_LI ea_LI
        [(0, false, [C.tr false (T.arr 1 (atL Nd.cs l x16.toNat 8).ln (atL Nd.cs l x16.toNat 8).fn)])]).length &&
  true) <|
  gd ((inv ok_ThS ea_ThS
          [(0, false, [C.tr false (T.arr 3 (atL Nd.cs l x16.toNat 11).ln (atL Nd.cs l x16.toNat 11).fn)])]).length.ble
    (inv ok_ThS ea_ThS
        [(0, false, [C.tr false (T.arr 3 (atL Nd.cs l x16.toNat 11).ln (atL Nd.cs l x16.toNat 11).fn)])]).length &&
  true) <|
  gd ((inv ok_LI ea_LI
          [(0, false, [C.tr false (T.arr 1 (atL Nd.cs l x16.toNat 12).ln (atL Nd.cs l x16.toNat 12).fn)])]).length.ble
    (inv ok_LI ea_LI
        [(0, false, [C.tr false (T.arr 1 (atL Nd.cs l x16.toNat 12).ln (atL Nd.cs l x16.toNat 12).fn)])]).length &&
  true) <|
  gd ((0 + x16.toNat).blt nx12 && true && true) <|
  gd ((0 + x16.toNat).blt nx12 && true && true) <|
  gd ((0 + x16.toNat).blt nx12 && true && true) <|
  gd ((0 + x16.toNat).blt nx12 && true && true) <|
  gd ((0 + x16.toNat).blt nx12 && true && true) <|
  gd ((0 + x16.toNat).blt nx12 && true && true) <|
  gd ((0 + x16.toNat).blt nx12 && true && true) <|
  gd ((0 + x16.toNat).blt nx12 && true && true) <|
  gd ((0 + x16.toNat).blt nx12 && true && true) <|
  gd ((0 + x16.toNat).blt nx12 && true && true) <|
  gd ((0 + x16.toNat).blt nx12 && true && true) <|
  gd ((0 + x16.toNat).blt nx12 && true && true) <|
  gd ((0 + x16.toNat).blt nx12 && true && true) <|
  K .normal (st_toNdS_1 l (nx12) (setF (0 + x16.toNat) (1 + 1 + 1 + 1 + 1 + 1 + 1 + 1 + 1 + 1 + 1 + 1)
  (T.arr 1
    (inv ok_LI ea_LI
        [(0, false, [C.tr false (T.arr 1 (atL Nd.cs l x16.toNat 12).ln (atL Nd.cs l x16.toNat 12).fn)])]).length
    (atL rowI
      (inv ok_LI ea_LI
        [(0, false, [C.tr false (T.arr 1 (atL Nd.cs l x16.toNat 12).ln (atL Nd.cs l x16.toNat 12).fn)])])))
  (setF (0 + x16.toNat) (1 + 1 + 1 + 1 + 1 + 1 + 1 + 1 + 1 + 1 + 1)
    (T.arr 3
      (inv ok_ThS ea_ThS
          [(0, false, [C.tr false (T.arr 3 (atL Nd.cs l x16.toNat 11).ln (atL Nd.cs l x16.toNat 11).fn)])]).length
      (eL 3 Th.cs
          (inv ok_ThS ea_ThS
            [(0, false, [C.tr false (T.arr 3 (atL Nd.cs l x16.toNat 11).ln (atL Nd.cs l x16.toNat 11).fn)])])).fn)
    (setF (0 + x16.toNat) (1 + 1 + 1 + 1 + 1 + 1 + 1 + 1 + 1 + 1) (T.int IntKind.i64 (atL Nd.cs l x16.toNat 10).toI)
      (setF (0 + x16.toNat) (1 + 1 + 1 + 1 + 1 + 1 + 1 + 1 + 1) (T.int IntKind.i64 (atL Nd.cs l x16.toNat 9).toI)
        (setF (0 + x16.toNat) (1 + 1 + 1 + 1 + 1 + 1 + 1 + 1)
          (T.arr 1
            (inv ok_LI ea_LI
                [(0, false, [C.tr false (T.arr 1 (atL Nd.cs l x16.toNat 8).ln (atL Nd.cs l x16.toNat 8).fn)])]).length
            (atL rowI
              (inv ok_LI ea_LI
                [(0, false, [C.tr false (T.arr 1 (atL Nd.cs l x16.toNat 8).ln (atL Nd.cs l x16.toNat 8).fn)])])))
          (setF (0 + x16.toNat) (1 + 1 + 1 + 1 + 1 + 1 + 1) (T.int IntKind.i64 (atL Nd.cs l x16.toNat 7).toI)
            (setF (0 + x16.toNat) (1 + 1 + 1 + 1 + 1 + 1) (T.int IntKind.i64 (atL Nd.cs l x16.toNat 6).toI)
              (setF (0 + x16.toNat) (1 + 1 + 1 + 1 + 1) (T.int IntKind.i64 (atL Nd.cs l x16.toNat 5).toI)
                (setF (0 + x16.toNat) (1 + 1 + 1 + 1) (T.int IntKind.i64 (atL Nd.cs l x16.toNat 4).toI)
                  (setF (0 + x16.toNat) (1 + 1 + 1) (T.int IntKind.i64 (atL Nd.cs l x16.toNat 3).toI)
                    (setF (0 + x16.toNat) (1 + 1) (T.int IntKind.i64 (atL Nd.cs l x16.toNat 2).toI)
                      (setF (0 + x16.toNat) 1 (T.int IntKind.i64 (atL Nd.cs l x16.toNat 1).toI)
                        (setF (0 + x16.toNat) 0 (T.int IntKind.i64 (atL Nd.cs l x16.toNat 0).toI) fx12))))))))))))) (IntKind.i64.wrap (x16 + 1)))
 else
 K (.exit 0) (ex_toNdS_1_1 l nx12 fx12 x16)) := by kernel_rfl
theorem post_toNdS_1_1 (l : List Nd) (nx12 : Nat) (fx12 : Nat → Nat → T) (x16 : Int) (n : Nat) : contAt prog (tabS [(i_toNd, e_toNd)]) kp_toNdS F_toNdS ts_toNdS [1, 1, 0, 1, 0] [] n (.exit 0) (ex_toNdS_1_1 l nx12 fx12 x16) = (
 gd (nx12.ble nx12 && true) <|
 gd (nx12.ble nx12 && true) <|
 some ([(false, [.tr true (.arr (13) (nx12) (fx12))])], [(false, [])])) := by kernel_rfl
theorem pre_toNdS (l : List Nd) (n : Nat) : body prog (tabS [(i_toNd, e_toNd)]) kp_toNdS n F_toNdS [aT (eL 13 Nd.cs l)] = (
 gd (decide (0 ≤ (↑l.length : Int)) &&
  (decide ((↑l.length : Int) ≤ (↑l.length : Int)) &&
    (((↑l.length : Int).toNat * 152).ble 70368744177664 && (↑l.length : Int).toNat.ble 70368744177664))) <|
 gd ((↑l.length : Int).toNat.ble (↑l.length : Int).toNat && true) <|
 loopAt prog (tabS [(i_toNd, e_toNd)]) kp_toNdS F_toNdS [1, 1, 0, 1, 0] n n (st_toNdS_1 l ((↑l.length : Int).toNat) (cutT 0 (↑l.length : Int).toNat (zeroT prog 105)) (0)) (contAt prog (tabS [(i_toNd, e_toNd)]) kp_toNdS F_toNdS ts_toNdS [1, 1, 0, 1, 0] [] n)) := by kernel_rfl
theorem body_toNdS (l : List Nd) (hl : ok_NdS l) : body prog (tabS [(i_toNd, e_toNd)]) kp_toNdS (l.length + 1) F_toNdS (ea_NdS l) = some (erT 1 (eL 13 Nd.cs l)) := by
  have hl' : l.length ≤ LM := hl.1
  have hlm := lm
  unfold ea_NdS
  rw [pre_toNdS]
  simp only [ge0_d, Int.toNat_natCast, ble_d, Int.le_refl, Nat.le_refl, decide_true, Bool.and_true, Bool.true_and, gd_true]
  rw [decide_eq_true (show l.length * 152 ≤ 70368744177664 by omega), decide_eq_true (show l.length ≤ 70368744177664 by omega)]
  simp only [Bool.and_true, gd_true]
  rw [zero_fill (m := 13) (row := Nd.cs) (d := default) l.length (fun j k => by rcases k with _ | _ | _ | _ | _ | _ | _ | _ | _ | _ | _ | _ | _ | _ <;> kernel_rfl), ← fill_zero l default]
  have hst : st_toNdS_1 l l.length (atL Nd.cs (fill l default 0)) 0 = (fun i : Nat => st_toNdS_1 l l.length (atL Nd.cs (fill l default i)) (i : Nat)) 0 := rfl
  rw [hst, forLoop l.length (fun i : Nat => st_toNdS_1 l l.length (atL Nd.cs (fill l default i)) (i : Nat)) (ex_toNdS_1_1 l l.length (atL Nd.cs l) l.length) 0 (fun i K hi => ?_) (fun K => ?_) _ (Nat.le_refl _)]
  · rw [post_toNdS_1_1]
    simp only [ble_d, Nat.le_refl, decide_true, gd_true, Bool.and_true]
    rfl
  · have hx := List.getElem?_eq_getElem hi
    have h0 := (hl.2 _ (List.getElem_mem hi)).1
    have h1 := (hl.2 _ (List.getElem_mem hi)).2.1
    have h2 := (hl.2 _ (List.getElem_mem hi)).2.2
    have hd : (fill l default i)[i]? = some default := by
      unfold fill
      rw [List.getElem?_append_right (by simp; omega), List.getElem?_replicate, if_pos (by simp; omega)]
    rw [round_toNdS_1]
    simp only [lt_d, ge0_d, Int.toNat_natCast, blt_d, ble_self, beq_self, decide_true, cond_true, Bool.and_self, Bool.and_true, Bool.true_and, gd_true, Nat.zero_add, List.getD_cons_zero, List.getD_cons_succ, isI_int, toI_int, isB_bool, toB_bool, eL_T, arr_ln, arr_fn, arr_wd, arr_is, arr_get, hi, atL_of hx, Nd.cs, dm_toLI h0, iv_toLI h0, dm_toThS h1, iv_toThS h1, dm_toLI h2, iv_toLI h2]
    rw [wrapS (by omega), ← fill_set l default hx]
    congr 3
    refine set_atL (by rw [fill_len l default (by omega)]; exact hi) fun j' k' => ?_
    by_cases e : j' = i
    · subst e
      rcases k' with _ | _ | _ | _ | _ | _ | _ | _ | _ | _ | _ | _ | _ | k' <;> simp [setF_d, Nd.cs, atL_of hd, eL_T]
    · simp [setF_d, e]
  · rw [round_toNdS_1, fill_all]
    simp only [lt_d, Nat.lt_irrefl, decide_false, cond_false]
theorem s_toNdS : EntOk prog i_toNdS e_toNdS := ent_ok ea_NdS_inj fun l hl =>
  body_sound (φ := (tabS [(i_toNd, e_toNd)])) (tabS_cons s_toNd tabS_nil) mixed (kp := kp_toNdS) (n := l.length + 1) func78 (c := bodyOf F_toNdS) (by kernel_rfl) (body_toNdS l hl) (name_ok (by kernel_rfl))
def i_eqNdS : Nat := 89
noncomputable abbrev F_eqNdS : Func := f89
def kp_eqNdS : List (Nat × List Nat) := [(0, [0, 4]), (1, [0, 4, 40]), (2, [16]), (3, [0, 4, 20]), (4, [0, 4, 20, 56]), (5, [0, 4, 20]), (6, [0, 4, 20, 104]), (7, [16]), (8, [16])]
def ts_eqNdS : List Nat := [0, 0]
def st_eqNdS_1 (l r : List Nd) (x20 : Int) : St := [(0, ⟨z0, [(false, [.tr false (eL 13 Nd.cs l)])]⟩), (4, ⟨z0, [(false, [.tr false (eL 13 Nd.cs r)])]⟩), (20, ⟨z0, [(false, [.tr true (T.int IntKind.i64 x20)])]⟩)]
def ex_eqNdS_1_1 (l r : List Nd) (x20 : Int) : St := [(16, ⟨z0, [(false, [.tr true (T.bool false)])]⟩)]
def ex_eqNdS_1_2 (l r : List Nd) (x20 : Int) : St := [(0, ⟨z0, [(false, [.tr false (eL 13 Nd.cs l)])]⟩), (4, ⟨z0, [(false, [.tr false (eL 13 Nd.cs r)])]⟩), (20, ⟨z0, [(false, [.tr true (T.int IntKind.i64 x20)])]⟩), (56, ⟨z0, []⟩)]
theorem round_eqNdS_1 (l r : List Nd) (x20 : Int) (n : Nat) (K : Ex → St → Res) : roundAt prog (tabS [(i_eqNd, e_eqNd)]) kp_eqNdS F_eqNdS [1, 1, 0, 1, 0] n (st_eqNdS_1 l r x20) K = (
 bif decide (x20 < (↑l.length : Int)) then
  gd (decide (0 ≤ x20) && (x20.toNat.blt l.length && true)) <|
  gd (T.isI IntKind.i64 (atL Nd.cs l x20.toNat 0) && T.isI IntKind.i64 (atL Nd.cs l x20.toNat 1) &&
                      T.isI IntKind.i64 (atL Nd.cs l x20.toNat 2) &&
                    T.isI IntKind.i64 (atL Nd.cs l x20.toNat 3) &&
                  T.isI IntKind.i64 (atL Nd.cs l x20.toNat 4) &&
                T.isI IntKind.i64 (atL Nd.cs l x20.toNat 5) &&
              T.isI IntKind.i64 (atL Nd.cs l x20.toNat 6) &&
            T.isI IntKind.i64 (atL Nd.cs l x20.toNat 7) &&
          ((atL Nd.cs l x20.toNat 8).isArr && (atL Nd.cs l x20.toNat 8).wd.beq 1) &&
        T.isI IntKind.i64 (atL Nd.cs l x20.toNat 9) &&
      T.isI IntKind.i64 (atL Nd.cs l x20.toNat 10) &&
    ((atL Nd.cs l x20.toNat 11).isArr && (atL Nd.cs l x20.toNat 11).wd.beq 3) &&
  ((atL Nd.cs l x20.toNat 12).isArr && (atL Nd.cs l x20.toNat 12).wd.beq 1)) <|
  gd (decide (0 ≤ x20) && (x20.toNat.blt r.length && true)) <|
  gd (T.isI IntKind.i64 (atL Nd.cs r x20.toNat 0) && T.isI IntKind.i64 (atL Nd.cs r x20.toNat 1) &&
                      T.isI IntKind.i64 (atL Nd.cs r x20.toNat 2) &&
                    T.isI IntKind.i64 (atL Nd.cs r x20.toNat 3) &&
                  T.isI IntKind.i64 (atL Nd.cs r x20.toNat 4) &&
                T.isI IntKind.i64 (atL Nd.cs r x20.toNat 5) &&
              T.isI IntKind.i64 (atL Nd.cs r x20.toNat 6) &&
            T.isI IntKind.i64 (atL Nd.cs r x20.toNat 7) &&
          ((atL Nd.cs r x20.toNat 8).isArr && (atL Nd.cs r x20.toNat 8).wd.beq 1) &&
        T.isI IntKind.i64 (atL Nd.cs r x20.toNat 9) &&
      T.isI IntKind.i64 (atL Nd.cs r x20.toNat 10) &&
    ((atL Nd.cs r x20.toNat 11).isArr && (atL Nd.cs r x20.toNat 11).wd.beq 3) &&
  ((atL Nd.cs r x20.toNat 12).isArr && (atL Nd.cs r x20.toNat 12).wd.beq 1)) <|
  bif (atL Nd.cs l x20.toNat 0).toI != (atL Nd.cs r x20.toNat 0).toI then
   K .ret (ex_eqNdS_1_1 l r x20)
  else
  bif (atL Nd.cs l x20.toNat 1).toI != (atL Nd.cs r x20.toNat 1).toI then
   K .ret (ex_eqNdS_1_1 l r x20)
  else
  bif (atL Nd.cs l x20.toNat 2).toI != (atL Nd.cs r x20.toNat 2).toI then
   K .ret (ex_eqNdS_1_1 l r x20)
  else
  bif (atL Nd.cs l x20.toNat 3).toI != (atL Nd.cs r x20.toNat 3).toI then
   K .ret (ex_eqNdS_1_1 l r x20)
  else
  bif (atL Nd.cs l x20.toNat 4).toI != (atL Nd.cs r x20.toNat 4).toI then
   K .ret (ex_eqNdS_1_1 l r x20)
  else
  bif (atL Nd.cs l x20.toNat 5).toI != (atL Nd.cs r x20.toNat 5).toI then
   K .ret (ex_eqNdS_1_1 l r x20)
  else
  bif (atL Nd.cs l x20.toNat 6).toI != (atL Nd.cs r x20.toNat 6).toI then
   K .ret (ex_eqNdS_1_1 l r x20)
  else
  bif (atL Nd.cs l x20.toNat 7).toI != (atL Nd.cs r x20.toNat 7).toI then
   K .ret (ex_eqNdS_1_1 l r x20)
  else
  gd (dom ok2_LI ea2_LI
  [(0, false, [C.tr false (T.arr 1 (atL Nd.cs l x20.toNat 8).ln (atL Nd.cs l x20.toNat 8).fn)]),
    (0, false, [C.tr false (T.arr 1 (atL Nd.cs r x20.toNat 8).ln (atL Nd.cs r x20.toNat 8).fn)])]) <|
  bif !f_eqLI
    (inv ok2_LI ea2_LI
      [(0, false, [C.tr false (T.arr 1 (atL Nd.cs l x20.toNat 8).ln (atL Nd.cs l x20.toNat 8).fn)]),
        (0, false, [C.tr false (T.arr 1 (atL Nd.cs r x20.toNat 8).ln (atL Nd.cs r x20.toNat 8).fn)])]) then
   K .ret (ex_eqNdS_1_1 l r x20)
  else
  bif (atL Nd.cs l x20.toNat 9).toI != (atL Nd.cs r x20.toNat 9).toI then
   K .ret (ex_eqNdS_1_1 l r x20)
  else
  bif (atL Nd.cs l x20.toNat 10).toI != (atL Nd.cs r x20.toNat 10).toI then
   K .ret (ex_eqNdS_1_1 l r x20)
  else
  gd (dom ok2_ThS ea2_ThS
  [(0, false, [C.tr false (T.arr 3 (atL Nd.cs l x20.toNat 11).ln (atL Nd.cs l x20.toNat 11).fn)]),
    (0, false, [C.tr false (T.arr 3 (atL Nd.cs r x20.toNat 11).ln (atL Nd.cs r x20.toNat 11).fn)])]) <|
  bif !f_eqThS
    (inv ok2_ThS ea2_ThS
      [(0, false, [C.tr false (T.arr 3 (atL Nd.cs l x20.toNat 11).ln (atL Nd.cs l x20.toNat 11).fn)]),
        (0, false, [C.tr false (T.arr 3 (atL Nd.cs r x20.toNat 11).ln (atL Nd.cs r x20.toNat 11).fn)])]) then
   K .ret (ex_eqNdS_1_1 l r x20)
  else
  gd (dom ok2_LI ea2_LI
  [(0, false, [C.tr false (T.arr 1 (atL Nd.cs l x20.toNat 12).ln (atL Nd.cs l x20.toNat 12).fn)]),
    (0, false, [C.tr false (T.arr 1 (atL Nd.cs r x20.toNat 12).ln (atL Nd.cs r x20.toNat 12).fn)])]) <|
  bif !f_eqLI
    (inv ok2_LI ea2_LI
      [(0, false, [C.tr false (T.arr 1 (atL Nd.cs l x20.toNat 12).ln (atL Nd.cs l x20.toNat 12).fn)]),
        (0, false, [C.tr false (T.arr 1 (atL Nd.cs r x20.toNat 12).ln (atL Nd.cs r x20.toNat 12).fn)])]) then
   K .ret (ex_eqNdS_1_1 l r x20)
  else
  K .normal (st_eqNdS_1 l r (IntKind.i64.wrap (x20 + 1)))
 else
 K (.exit 0) (ex_eqNdS_1_2 l r x20)) := by kernel_rfl
theorem post_eqNdS_1_1 (l r : List Nd) (x20 : Int) (n : Nat) : contAt prog (tabS [(i_eqNd, e_eqNd)]) kp_eqNdS F_eqNdS ts_eqNdS [1, 1, 0, 1, 0] [] n .ret (ex_eqNdS_1_1 l r x20) = (
 some ([(false, [.tr true (T.bool false)])], [(false, []), (false, [])])) := by kernel_rfl
theorem post_eqNdS_1_2 (l r : List Nd) (x20 : Int) (n : Nat) : contAt prog (tabS [(i_eqNd, e_eqNd)]) kp_eqNdS F_eqNdS ts_eqNdS [1, 1, 0, 1, 0] [] n (.exit 0) (ex_eqNdS_1_2 l r x20) = (
 some ([(false, [.tr true (T.bool true)])], [(false, []), (false, [])])) := by kernel_rfl
theorem pre_eqNdS (l r : List Nd) (n : Nat) : body prog (tabS [(i_eqNd, e_eqNd)]) kp_eqNdS n F_eqNdS [aT (eL 13 Nd.cs l), aT (eL 13 Nd.cs r)] = (
 bif (↑l.length : Int) != (↑r.length : Int) then
  some ([(false, [.tr true (T.bool false)])], [(false, []), (false, [])])
 else
 loopAt prog (tabS [(i_eqNd, e_eqNd)]) kp_eqNdS F_eqNdS [1, 1, 0, 1, 0] n n (st_eqNdS_1 l r (0)) (contAt prog (tabS [(i_eqNd, e_eqNd)]) kp_eqNdS F_eqNdS ts_eqNdS [1, 1, 0, 1, 0] [] n)) := by kernel_rfl
theorem body_eqNdS (l r : List Nd) (hl : okq_NdS l) : body prog (tabS [(i_eqNd, e_eqNd)]) kp_eqNdS (l.length + 1) F_eqNdS (ea2_NdS (l, r)) = some (erB 2 (f_eqNdS (l, r))) := by
  have hbm := bm
  have hl' : l.length ≤ BM := hl.1
  unfold ea2_NdS f_eqNdS
  dsimp only
  rw [pre_eqNdS, int_ne]
  by_cases h : l.length = r.length
  · rw [decide_eq_true (by omega)]
    simp only [Bool.not_true, cond_false]
    have hst : st_eqNdS_1 l r 0 = (fun i : Nat => st_eqNdS_1 l r (i : Nat)) 0 := rfl
    rw [hst, eqS l r h (fun i : Nat => st_eqNdS_1 l r (i : Nat)) (fun i : Nat => ex_eqNdS_1_1 l r (i : Nat)) (ex_eqNdS_1_2 l r l.length) (fun i x y K hx hy => ?_) (fun K => ?_) (fun i => post_eqNdS_1_1 l r _ _) (post_eqNdS_1_2 l r _ _) _ (Nat.le_refl _)]
    · by_cases e : l = r
      · rw [if_pos e, decide_eq_true e]; rfl
      · rw [if_neg e, decide_eq_false e]; rfl
    · have hi := (List.getElem?_eq_some_iff.1 hx).1
      have hi' := (List.getElem?_eq_some_iff.1 hy).1
      have hxm : x ∈ l := List.mem_of_getElem? hx
      have h0 := (hl.2 _ hxm).1
      have h1 := (hl.2 _ hxm).2.1
      have h2 := (hl.2 _ hxm).2.2
      rw [round_eqNdS_1]
      simp only [lt_d, ge0_d, Int.toNat_natCast, blt_d, ble_self, beq_self, decide_true, cond_true, Bool.and_self, Bool.and_true, Bool.true_and, gd_true, Nat.zero_add, List.getD_cons_zero, List.getD_cons_succ, isI_int, toI_int, isB_bool, toB_bool, eL_T, arr_ln, arr_fn, arr_wd, arr_is, arr_get, hi, hi', atL_of hx, atL_of hy, Nd.cs, int_ne, bool_ne, bool_eq, dm_eqLI h0, iv_eqLI h0, d_eqLI, dm_eqThS h1, iv_eqThS h1, d_eqThS, dm_eqLI h2, iv_eqLI h2, d_eqLI, chain]
      rw [wrapS (by omega)]
      have hxy : (x.st = y.st ∧ x.gen = y.gen ∧ x.ep = y.ep ∧ x.up = y.up ∧ x.upEp = y.upEp ∧ x.first = y.first ∧ x.next = y.next ∧ x.prev = y.prev ∧ x.chunks = y.chunks ∧ x.cur = y.cur ∧ x.bump = y.bump ∧ x.things = y.things ∧ x.tags = y.tags) ↔ x = y := by
        rcases x with ⟨x0, x1, x2, x3, x4, x5, x6, x7, x8, x9, x10, x11, x12⟩
        rcases y with ⟨y0, y1, y2, y3, y4, y5, y6, y7, y8, y9, y10, y11, y12⟩
        simp [and_assoc]
      simp only [hxy]
    · rw [round_eqNdS_1]
      simp only [lt_d, Nat.lt_irrefl, decide_false, cond_false]
  · rw [decide_eq_false (by omega)]
    have : ¬ l = r := fun e => h (by rw [e])
    rw [decide_eq_false this]
    rfl
theorem s_eqNdS : EntOk prog i_eqNdS e_eqNdS := ent_ok ea2_NdS_inj fun x hx =>
  body_sound (φ := (tabS [(i_eqNd, e_eqNd)])) (tabS_cons s_eqNd tabS_nil) mixed (kp := kp_eqNdS) (n := x.1.length + 1) func89 (c := bodyOf F_eqNdS) (by kernel_rfl) (body_eqNdS x.1 x.2 hx) (name_ok (by kernel_rfl))
theorem dm_toNdS {l : List Nd} (h : ok_NdS l) : dom ok_NdS ea_NdS [(0, false, [C.tr false (T.arr 13 l.length (atL Nd.cs l))])] = true := dom_ea (ea := ea_NdS) (x := l) h
theorem iv_toNdS {l : List Nd} (h : ok_NdS l) : inv ok_NdS ea_NdS [(0, false, [C.tr false (T.arr 13 l.length (atL Nd.cs l))])] = l := inv_ea ea_NdS_inj (x := l) h
theorem dm_eqNdS {l r : List Nd} (h : okq_NdS l) : dom ok2_NdS ea2_NdS [(0, false, [C.tr false (T.arr 13 l.length (atL Nd.cs l))]), (0, false, [C.tr false (T.arr 13 r.length (atL Nd.cs r))])] = true := dom_ea (ea := ea2_NdS) (x := (l, r)) h
theorem iv_eqNdS {l r : List Nd} (h : okq_NdS l) : inv ok2_NdS ea2_NdS [(0, false, [C.tr false (T.arr 13 l.length (atL Nd.cs l))]), (0, false, [C.tr false (T.arr 13 r.length (atL Nd.cs r))])] = (l, r) := inv_ea ea2_NdS_inj (x := (l, r)) h
theorem d_eqNdS (l r : List Nd) : f_eqNdS (l, r) = decide (l = r) := rfl
def n1_NdS (x : Nd) : Nat := n_LI x.chunks + n_ThS x.things + n_LI x.tags
def n_NdS (l : List Nd) : Nat := l.length + cntL n1_NdS l
def okz_NdS (l : List Nd) : Prop := l.length ≤ ZM ∧ ∀ x ∈ l, okz_LI x.chunks ∧ okz_ThS x.things ∧ okz_LI x.tags
def okzz_NdS (x : List Nd × Int) : Prop := okz_NdS x.1 ∧ 0 ≤ x.2 ∧ x.2 ≤ LM
def eaz_NdS (x : List Nd × Int) : List Arg := [aT (eL 13 Nd.cs x.1), aI x.2]
def f_szNdS (x : List Nd × Int) : Int := if (n_NdS x.1 : Int) ≤ x.2 then x.2 - n_NdS x.1 else -1
noncomputable def e_szNdS : Ent := ent [] okzz_NdS eaz_NdS (erI 2) f_szNdS
theorem eaz_NdS_inj (x y : List Nd × Int) (h : eaz_NdS x = eaz_NdS y) : x = y := by
  simp only [eaz_NdS, aI, aT, List.cons.injEq, Prod.mk.injEq, true_and, and_true, C.tr.injEq, T.int.injEq] at h
  exact Prod.ext (eL_inj Nd.cs_inj h.1) h.2
theorem dm_szNdS {l : List Nd} {k : Int} (h : okzz_NdS (l, k)) : dom okzz_NdS eaz_NdS [(0, false, [C.tr false (T.arr 13 l.length (atL Nd.cs l))]), (0, false, [C.tr false (T.int IntKind.i64 k)])] = true := dom_ea (ea := eaz_NdS) (x := (l, k)) h
theorem iv_szNdS {l : List Nd} {k : Int} (h : okzz_NdS (l, k)) : inv okzz_NdS eaz_NdS [(0, false, [C.tr false (T.arr 13 l.length (atL Nd.cs l))]), (0, false, [C.tr false (T.int IntKind.i64 k)])] = (l, k) := inv_ea eaz_NdS_inj (x := (l, k)) h
theorem y_szNdS {l : List Nd} {k : Int} (h : (n_NdS l : Int) ≤ k) : f_szNdS (l, k) = k - n_NdS l := if_pos h
theorem n_szNdS {l : List Nd} {k : Int} (h : ¬ (n_NdS l : Int) ≤ k) : f_szNdS (l, k) = -1 := if_neg h
def i_szNdS : Nat := 71
noncomputable abbrev F_szNdS : Func := f71
def kp_szNdS : List (Nat × List Nat) := [(0, [0, 4]), (1, [0, 4]), (2, [0, 4, 44]), (3, [16]), (4, [0, 4, 20]), (5, [0, 4, 20, 60]), (6, [0, 4, 20]), (7, [0, 4, 20]), (8, [0, 4, 20, 100]), (9, [16]), (10, [16])]
def ts_szNdS : List Nat := [0, 0]
def st_szNdS_1 (l : List Nd) (k : Int) (x4 : Int) (x20 : Int) : St := [(0, ⟨z0, [(false, [.tr false (eL 13 Nd.cs l)])]⟩), (4, ⟨z0, [(false, [.tr true (T.int IntKind.i64 x4)])]⟩), (20, ⟨z0, [(false, [.tr true (T.int IntKind.i64 x20)])]⟩)]
def ex_szNdS_1_1 (l : List Nd) (k : Int) (x4 : Int) (x20 : Int) : St := [(16, ⟨z0, [(false, [.tr true (T.int IntKind.i64 (-1))])]⟩)]
def ex_szNdS_1_2 (l : List Nd) (k : Int) (x4 : Int) (x20 : Int) : St := [(0, ⟨z0, [(false, [.tr false (eL 13 Nd.cs l)])]⟩), (4, ⟨z0, [(false, [.tr true (T.int IntKind.i64 x4)])]⟩), (20, ⟨z0, [(false, [.tr true (T.int IntKind.i64 x20)])]⟩), (60, ⟨z0, []⟩)]
theorem round_szNdS_1 (l : List Nd) (k : Int) (x4 : Int) (x20 : Int) (n : Nat) (K : Ex → St → Res) : roundAt prog (tabS [(i_szNd, e_szNd)]) kp_szNdS F_szNdS [1, 1, 1, 0, 1, 0] n (st_szNdS_1 l k x4 x20) K = (
 bif decide (x20 < (↑l.length : Int)) then
  gd (decide (0 ≤ x20) && (x20.toNat.blt l.length && true)) <|
  gd (T.isI IntKind.i64 (atL Nd.cs l x20.toNat 0) && T.isI IntKind.i64 (atL Nd.cs l x20.toNat 1) &&
                      T.isI IntKind.i64 (atL Nd.cs l x20.toNat 2) &&
                    T.isI IntKind.i64 (atL Nd.cs l x20.toNat 3) &&
                  T.isI IntKind.i64 (atL Nd.cs l x20.toNat 4) &&
                T.isI IntKind.i64 (atL Nd.cs l x20.toNat 5) &&
              T.isI IntKind.i64 (atL Nd.cs l x20.toNat 6) &&
            T.isI IntKind.i64 (atL Nd.cs l x20.toNat 7) &&
          ((atL Nd.cs l x20.toNat 8).isArr && (atL Nd.cs l x20.toNat 8).wd.beq 1) &&
        T.isI IntKind.i64 (atL Nd.cs l x20.toNat 9) &&
      T.isI IntKind.i64 (atL Nd.cs l x20.toNat 10) &&
    ((atL Nd.cs l x20.toNat 11).isArr && (atL Nd.cs l x20.toNat 11).wd.beq 3) &&
  ((atL Nd.cs l x20.toNat 12).isArr && (atL Nd.cs l x20.toNat 12).wd.beq 1)) <|
  bif decide (IntKind.i64.wrap (x4 - (↑(atL Nd.cs l x20.toNat 8).ln : Int)) < 0) then
   K .ret (ex_szNdS_1_1 l k x4 x20)
  else
  bif decide (IntKind.i64.wrap (x4 - (↑(atL Nd.cs l x20.toNat 8).ln : Int)) < 0) then
   K .ret (ex_szNdS_1_1 l k x4 x20)
  else
  bif decide
  (IntKind.i64.wrap
      (IntKind.i64.wrap (x4 - (↑(atL Nd.cs l x20.toNat 8).ln : Int)) - (↑(atL Nd.cs l x20.toNat 11).ln : Int)) <
    0) then
   K .ret (ex_szNdS_1_1 l k x4 x20)
  else
  bif decide
  (IntKind.i64.wrap
      (IntKind.i64.wrap (x4 - (↑(atL Nd.cs l x20.toNat 8).ln : Int)) - (↑(atL Nd.cs l x20.toNat 11).ln : Int)) <
    0) then
   K .ret (ex_szNdS_1_1 l k x4 x20)
  else
  bif decide
  (IntKind.i64.wrap
      (IntKind.i64.wrap
          (IntKind.i64.wrap (x4 - (↑(atL Nd.cs l x20.toNat 8).ln : Int)) - (↑(atL Nd.cs l x20.toNat 11).ln : Int)) -
        (↑(atL Nd.cs l x20.toNat 12).ln : Int)) <
    0) then
   K .ret (ex_szNdS_1_1 l k x4 x20)
  else
  bif decide
  (IntKind.i64.wrap
      (IntKind.i64.wrap
          (IntKind.i64.wrap (x4 - (↑(atL Nd.cs l x20.toNat 8).ln : Int)) - (↑(atL Nd.cs l x20.toNat 11).ln : Int)) -
        (↑(atL Nd.cs l x20.toNat 12).ln : Int)) <
    0) then
   K .ret (ex_szNdS_1_1 l k x4 x20)
  else
  bif decide
  (IntKind.i64.wrap
      (IntKind.i64.wrap
          (IntKind.i64.wrap (x4 - (↑(atL Nd.cs l x20.toNat 8).ln : Int)) - (↑(atL Nd.cs l x20.toNat 11).ln : Int)) -
        (↑(atL Nd.cs l x20.toNat 12).ln : Int)) <
    0) then
   K .ret (ex_szNdS_1_1 l k x4 x20)
  else
  K .normal (st_szNdS_1 l k (IntKind.i64.wrap
  (IntKind.i64.wrap
      (IntKind.i64.wrap (x4 - (↑(atL Nd.cs l x20.toNat 8).ln : Int)) - (↑(atL Nd.cs l x20.toNat 11).ln : Int)) -
    (↑(atL Nd.cs l x20.toNat 12).ln : Int))) (IntKind.i64.wrap (x20 + 1)))
 else
 K (.exit 0) (ex_szNdS_1_2 l k x4 x20)) := by kernel_rfl
theorem post_szNdS_1_1 (l : List Nd) (k : Int) (x4 : Int) (x20 : Int) (n : Nat) : contAt prog (tabS [(i_szNd, e_szNd)]) kp_szNdS F_szNdS ts_szNdS [1, 1, 1, 0, 1, 0] [] n .ret (ex_szNdS_1_1 l k x4 x20) = (
 some ([(false, [.tr true (T.int IntKind.i64 (-1))])], [(false, []), (false, [])])) := by kernel_rfl
theorem post_szNdS_1_2 (l : List Nd) (k : Int) (x4 : Int) (x20 : Int) (n : Nat) : contAt prog (tabS [(i_szNd, e_szNd)]) kp_szNdS F_szNdS ts_szNdS [1, 1, 1, 0, 1, 0] [] n (.exit 0) (ex_szNdS_1_2 l k x4 x20) = (
 some ([(false, [.tr true (T.int IntKind.i64 x4)])], [(false, []), (false, [])])) := by kernel_rfl
theorem pre_szNdS (l : List Nd) (k : Int) (n : Nat) : body prog (tabS [(i_szNd, e_szNd)]) kp_szNdS n F_szNdS [aT (eL 13 Nd.cs l), aI k] = (
 bif decide (IntKind.i64.wrap (k - (↑l.length : Int)) < 0) then
  some ([(false, [.tr true (T.int IntKind.i64 (-1))])], [(false, []), (false, [])])
 else
 loopAt prog (tabS [(i_szNd, e_szNd)]) kp_szNdS F_szNdS [1, 1, 1, 0, 1, 0] n n (st_szNdS_1 l k (IntKind.i64.wrap (k - (↑l.length : Int))) (0)) (contAt prog (tabS [(i_szNd, e_szNd)]) kp_szNdS F_szNdS ts_szNdS [1, 1, 1, 0, 1, 0] [] n)) := by kernel_rfl
theorem round1_szNdS (l : List Nd) (k : Int) (hl : okz_NdS l) {n : Nat} (i : Nat) (x : Nd) (K : Ex → St → Res) (hx : l[i]? = some x) (hr : (cntL n1_NdS (l.take i) : Int) ≤ k - (l.length : Int)) (hk1 : k ≤ LM) : roundAt prog (tabS [(i_szNd, e_szNd)]) kp_szNdS F_szNdS [1, 1, 1, 0, 1, 0] n (st_szNdS_1 l k (k - (l.length : Int) - cntL n1_NdS (l.take i)) (i : Nat)) K = bif decide (k - (l.length : Int) - cntL n1_NdS (l.take i) < n1_NdS x) then K .ret (ex_szNdS_1_1 l k (k - (l.length : Int) - cntL n1_NdS (l.take i)) (i : Nat)) else K .normal (st_szNdS_1 l k (k - (l.length : Int) - cntL n1_NdS (l.take (i + 1))) ((i + 1 : Nat) : Int)) := by
    have hzm := zm
    have hlm := lm
    have hl' : l.length ≤ ZM := hl.1
    have hi := (List.getElem?_eq_some_iff.1 hx).1
    have hxm : x ∈ l := List.mem_of_getElem? hx
    have hc := cntL_take n1_NdS l hx
    have hcx : n1_NdS x = x.chunks.length + x.things.length + x.tags.length := rfl
    rw [hc, round_szNdS_1]
    obtain ⟨k0, hk⟩ : ∃ k0, k0 = k - (l.length : Int) - (cntL n1_NdS (l.take i) : Int) := ⟨_, rfl⟩
    have hk2 : k - (l.length : Int) - ((cntL n1_NdS (l.take i) + n1_NdS x : Nat) : Int) = k0 - (x.chunks.length : Int) - (x.things.length : Int) - (x.tags.length : Int) := by omega
    rw [hk2, ← hk]
    have hk3 : 0 ≤ k0 := by omega
    have hk4 : k0 ≤ LM := by omega
    simp (disch := omega) only [lt_d, ge0_d, Int.toNat_natCast, blt_d, ble_self, beq_self, decide_true, cond_true, Bool.and_self, Bool.and_true, Bool.true_and, gd_true, Nat.zero_add, List.getD_cons_zero, List.getD_cons_succ, isI_int, toI_int, isB_bool, toB_bool, eL_T, arr_ln, arr_fn, arr_wd, arr_is, arr_get, hi, atL_of hx, Nd.cs, wrapS]
    have h0 : x.chunks.length ≤ ZM := (hl.2 _ hxm).1
    have h1 : x.things.length ≤ ZM := (hl.2 _ hxm).2.1
    have h2 : x.tags.length ≤ ZM := (hl.2 _ hxm).2.2
    try simp (disch := omega) only [wrapI]
    by_cases e0 : k0 - (x.chunks.length : Int) < 0
    case pos =>
      rw [decide_eq_true e0, decide_eq_true (show k0 < (n1_NdS x : Int) by omega)]
      rfl
    simp (disch := omega) only [decide_eq_false e0, cond_false, wrapI]
    try simp (disch := omega) only [wrapI]
    by_cases e1 : k0 - (x.chunks.length : Int) - (x.things.length : Int) < 0
    case pos =>
      rw [decide_eq_true e1, decide_eq_true (show k0 < (n1_NdS x : Int) by omega)]
      rfl
    simp (disch := omega) only [decide_eq_false e1, cond_false, wrapI]
    try simp (disch := omega) only [wrapI]
    by_cases e2 : k0 - (x.chunks.length : Int) - (x.things.length : Int) - (x.tags.length : Int) < 0
    case pos =>
      rw [decide_eq_true e2, decide_eq_true (show k0 < (n1_NdS x : Int) by omega)]
      rfl
    simp (disch := omega) only [decide_eq_false e2, cond_false, wrapI]
    rw [decide_eq_false (show ¬ k0 < (n1_NdS x : Int) by omega)]
    simp only [cond_false]
    try congr 2
    try omega
theorem body_szNdS (l : List Nd) (k : Int) (h : okzz_NdS (l, k)) : body prog (tabS [(i_szNd, e_szNd)]) kp_szNdS (l.length + 1) F_szNdS (eaz_NdS (l, k)) = some (erI 2 (f_szNdS (l, k))) := by
  obtain ⟨hl, hk0, hk1⟩ := h
  have hzm := zm
  have hlm := lm
  dsimp only at hl hk0 hk1
  have hl' : l.length ≤ ZM := hl.1
  have hn : n_NdS l = l.length + cntL n1_NdS l := rfl
  unfold eaz_NdS f_szNdS
  dsimp only
  rw [pre_szNdS]
  simp (disch := omega) only [wrapI]
  by_cases hs : k - (l.length : Int) < 0
  · rw [decide_eq_true hs, if_neg (by omega)]
    rfl
  · rw [decide_eq_false hs]
    simp only [cond_false]
    have hst : st_szNdS_1 l k (k - (l.length : Int)) 0 = (fun i : Nat => st_szNdS_1 l k (k - (l.length : Int) - cntL n1_NdS (l.take i)) (i : Nat)) 0 := by simp [cntL]
    rw [hst, szS n1_NdS l (k - (l.length : Int)) (by omega) (fun i : Nat => st_szNdS_1 l k (k - (l.length : Int) - cntL n1_NdS (l.take i)) (i : Nat)) (fun i : Nat => ex_szNdS_1_1 l k (k - (l.length : Int) - cntL n1_NdS (l.take i)) (i : Nat)) (ex_szNdS_1_2 l k (k - (l.length : Int) - cntL n1_NdS l) l.length) (fun i x K hx hr => ?_) (fun K hr => ?_) (fun i => post_szNdS_1_1 l k _ _ _) (post_szNdS_1_2 l k _ _ _) _ (Nat.le_refl _)]
    · by_cases hq : (cntL n1_NdS l : Int) ≤ k - (l.length : Int)
      · rw [if_pos hq, if_pos (by omega), show k - (l.length : Int) - (cntL n1_NdS l : Int) = k - (n_NdS l : Int) by omega]
        rfl
      · rw [if_neg hq, if_neg (by omega)]
        rfl
    · exact round1_szNdS l k hl i x K hx hr hk1
    · rw [round_szNdS_1]
      simp only [lt_d, Nat.lt_irrefl, decide_false, cond_false, List.take_length]
theorem s_szNdS : EntOk prog i_szNdS e_szNdS := ent_ok eaz_NdS_inj fun x hx =>
  body_sound (φ := (tabS [(i_szNd, e_szNd)])) (tabS_cons s_szNd tabS_nil) mixed (kp := kp_szNdS) (n := x.1.length + 1) func71 (c := bodyOf F_szNdS) (by kernel_rfl) (body_szNdS x.1 x.2 hx) (name_ok (by kernel_rfl))
theorem Ws.cs_inj (x y : Ws) (h : ∀ k, x.cs.getD k .hole = y.cs.getD k .hole) : x = y := by
  have h0 := h 0; have h1 := h 1; have h2 := h 2; have h3 := h 3; have h4 := h 4
  rcases x with ⟨x0, x1, x2, x3, x4⟩
  rcases y with ⟨y0, y1, y2, y3, y4⟩
  simp only [Ws.cs, List.getD_cons_zero, List.getD_cons_succ, T.int.injEq, T.bool.injEq, true_and] at h0 h1 h2 h3 h4
  replace h2 := eI_inj h2
  replace h3 := eI_inj h3
  subst h0; subst h1; subst h2; subst h3; subst h4
  rfl
def i_toWs : Nat := 140
noncomputable abbrev F_toWs : Func := f140
def kp_toWs : List (Nat × List Nat) := [(0, [4, 5, 8, 9, 12, 13, 84]), (1, [4, 5, 8, 9, 12, 13, 84]), (2, [4, 5, 8, 9, 12, 13, 84]), (3, [4, 5, 8, 9, 12, 13, 84]), (4, [4, 5, 8, 9, 12, 13, 84]), (5, [4, 5, 8, 9, 12, 13, 84]), (6, [8, 9, 12, 13, 84]), (7, [8, 9, 12, 13, 84])]
noncomputable def e_toWs : Ent := inl [] prog (tabS [(i_toLI, e_toLI)]) kp_toWs 0 F_toWs
theorem s_toWs : EntOk prog i_toWs e_toWs := inl_ok (tabS_cons s_toLI tabS_nil) mixed (c := bodyOf F_toWs) func140 (by kernel_rfl) (name_ok (by kernel_rfl))
def i_eqWs : Nat := 146
noncomputable abbrev F_eqWs : Func := f146
def kp_eqWs : List (Nat × List Nat) := [(0, [8, 9, 12, 13]), (1, [8, 9, 12, 13, 36]), (2, [16]), (3, [8, 9, 12, 13, 56]), (4, [16]), (5, [8, 9, 12, 13, 80]), (6, [16]), (7, [8, 9, 12, 13, 104]), (8, [16]), (9, [124]), (10, [16]), (11, [16])]
noncomputable def e_eqWs : Ent := inl [] prog (tabS [(i_eqLI, e_eqLI)]) kp_eqWs 0 F_eqWs
theorem s_eqWs : EntOk prog i_eqWs e_eqWs := inl_ok (tabS_cons s_eqLI tabS_nil) mixed (c := bodyOf F_eqWs) func146 (by kernel_rfl) (name_ok (by kernel_rfl))
def i_szWs : Nat := 134
noncomputable abbrev F_szWs : Func := f134
def kp_szWs : List (Nat × List Nat) := [(0, [4, 8, 9]), (1, [4, 8, 9]), (2, [4, 8, 9, 40]), (3, [16]), (4, [4]), (5, [4, 64]), (6, [16]), (7, [16])]
noncomputable def e_szWs : Ent := inl [] prog (tabS [(i_szLI, e_szLI)]) kp_szWs 0 F_szWs
theorem s_szWs : EntOk prog i_szWs e_szWs := inl_ok (tabS_cons s_szLI tabS_nil) mixed (c := bodyOf F_szWs) func134 (by kernel_rfl) (name_ok (by kernel_rfl))
def ok_WsS (l : List Ws) : Prop := l.length ≤ LM ∧ ∀ x ∈ l, ok_LI x.tags ∧ ok_LI x.chunks
def ea_WsS (l : List Ws) : List Arg := [aT (eL 5 Ws.cs l)]
noncomputable def e_toWsS : Ent := ent [] ok_WsS ea_WsS (fun l => erT 1 (eL 5 Ws.cs l)) fun l => l
def okq_WsS (l : List Ws) : Prop := l.length ≤ BM ∧ ∀ x ∈ l, okq_LI x.tags ∧ okq_LI x.chunks
def ok2_WsS (x : List Ws × List Ws) : Prop := okq_WsS x.1
def ea2_WsS (x : List Ws × List Ws) : List Arg := [aT (eL 5 Ws.cs x.1), aT (eL 5 Ws.cs x.2)]
def f_eqWsS (x : List Ws × List Ws) : Bool := decide (x.1 = x.2)
noncomputable def e_eqWsS : Ent := ent [] ok2_WsS ea2_WsS (erB 2) f_eqWsS
theorem ea_WsS_inj (x y : List Ws) (h : ea_WsS x = ea_WsS y) : x = y := by
  simp only [ea_WsS, aT, List.cons.injEq, Prod.mk.injEq, true_and, and_true, C.tr.injEq] at h
  exact eL_inj Ws.cs_inj h
theorem ea2_WsS_inj (x y : List Ws × List Ws) (h : ea2_WsS x = ea2_WsS y) : x = y := by
  simp only [ea2_WsS, aT, List.cons.injEq, Prod.mk.injEq, true_and, and_true, C.tr.injEq] at h
  exact Prod.ext (eL_inj Ws.cs_inj h.1) (eL_inj Ws.cs_inj h.2)
def i_toWsS : Nat := 79
noncomputable abbrev F_toWsS : Func := f79
def kp_toWsS : List (Nat × List Nat) := [(0, [0]), (1, [0, 12]), (2, [0, 12, 16]), (3, [0, 12, 16, 44]), (4, [0, 12, 16]), (5, [0, 12, 16]), (6, [8])]
def ts_toWsS : List Nat := [0]
def st_toWsS_1 (l : List Ws) (nx12 : Nat) (fx12 : Nat → Nat → T) (x16 : Int) : St := [(0, ⟨z0, [(false, [.tr false (eL 5 Ws.cs l)])]⟩), (12, ⟨z0, [(false, [.tr true (.arr (5) (nx12) (fx12))])]⟩), (16, ⟨z0, [(false, [.tr true (T.int IntKind.i64 x16)])]⟩)]
def ex_toWsS_1_1 (l : List Ws) (nx12 : Nat) (fx12 : Nat → Nat → T) (x16 : Int) : St := [(0, ⟨z0, [(false, [.tr false (eL 5 Ws.cs l)])]⟩), (12, ⟨z0, [(false, [.tr true (.arr (5) (nx12) (fx12))])]⟩), (16, ⟨z0, [(false, [.tr true (T.int IntKind.i64 x16)])]⟩), (44, ⟨z0, []⟩)]
theorem round_toWsS_1 (l : List Ws) (nx12 : Nat) (fx12 : Nat → Nat → T) (x16 : Int) (n : Nat) (K : Ex → St → Res) : roundAt prog (tabS [(i_toWs, e_toWs)]) kp_toWsS F_toWsS [1, 1, 0, 1, 0] n (st_toWsS_1 l nx12 fx12 x16) K = (
 bif decide (x16 < (↑l.length : Int)) then
  gd (decide (0 ≤ x16) && (x16.toNat.blt l.length && true)) <|
  gd (T.isI IntKind.i64 (atL Ws.cs l x16.toNat 0) && T.isI IntKind.i64 (atL Ws.cs l x16.toNat 1) &&
      ((atL Ws.cs l x16.toNat 2).isArr && (atL Ws.cs l x16.toNat 2).wd.beq 1) &&
    ((atL Ws.cs l x16.toNat 3).isArr && (atL Ws.cs l x16.toNat 3).wd.beq 1) &&
  T.isI IntKind.i64 (atL Ws.cs l x16.toNat 4)) <|
  gd (dom ok_LI ea_LI [(0, false, [C.tr false (T.arr 1 (atL Ws.cs l x16.toNat 2).ln (atL Ws.cs l x16.toNat 2).fn)])]) <|
  gd ((inv ok_LI ea_LI
          [(0, false, [C.tr false (T.arr 1 (atL Ws.cs l x16.toNat 2).ln (atL Ws.cs l x16.toNat 2).fn)])]).length.ble
    (inv ok_LI ea_LI
        [(0, false, [C.tr false (T.arr 1 (atL Ws.cs l x16.toNat 2).ln (atL Ws.cs l x16.toNat 2).fn)])]).length &&
  true) <|
  gd (dom ok_LI ea_LI [(0, false, [C.tr false (T.arr 1 (atL Ws.cs l x16.toNat 3).ln (atL Ws.cs l x16.toNat 3).fn)])]) <|
  gd ((inv ok_LI ea_LI
          [(0, false, [C.tr false (T.arr 1 (atL Ws.cs l x16.toNat 3).ln (atL Ws.cs l x16.toNat 3).fn)])]).length.ble
    (inv ok_LI ea_LI
        [(0, false, [C.tr false (T.arr 1 (atL Ws.cs l x16.toNat 3).ln (atL Ws.cs l x16.toNat 3).fn)])]).length &&
  true) <|
  gd ((inv ok_LI ea_LI
          [(0, false, [C.tr false (T.arr 1 (atL Ws.cs l x16.toNat 2).ln (atL Ws.cs l x16.toNat 2).fn)])]).length.ble
    (inv ok_LI ea_LI
        [(0, false, [C.tr false (T.arr 1 (atL Ws.cs l x16.toNat 2).ln (atL Ws.cs l x16.toNat 2).fn)])]).length &&
  true) <|
  gd ((inv ok_LI ea_LI
          [(0, false, [C.tr false (T.arr 1 (atL Ws.cs l x16.toNat 3).ln (atL Ws.cs l x16.toNat 3).fn)])]).length.ble
    (inv ok_LI ea_LI
        [(0, false, [C.tr false (T.arr 1 (atL Ws.cs l x16.toNat 3).ln (atL Ws.cs l x16.toNat 3).fn)])]).length &&
  true) <|
  gd ((inv ok_LI ea_LI
          [(0, false, [C.tr false (T.arr 1 (atL Ws.cs l x16.toNat 2).ln (atL Ws.cs l x16.toNat 2).fn)])]).length.ble
    (inv ok_LI ea_LI
        [(0, false, [C.tr false (T.arr 1 (atL Ws.cs l x16.toNat 2).ln (atL Ws.cs l x16.toNat 2).fn)])]).length &&
  true) <|
  gd ((inv ok_LI ea_LI
          [(0, false, [C.tr false (T.arr 1 (atL Ws.cs l x16.toNat 3).ln (atL Ws.cs l x16.toNat 3).fn)])]).length.ble
    (inv ok_LI ea_LI
        [(0, false, [C.tr false (T.arr 1 (atL Ws.cs l x16.toNat 3).ln (atL Ws.cs l x16.toNat 3).fn)])]).length &&
  true) <|
  gd (decide (0 ≤ x16) && (x16.toNat.blt nx12 && true)) <|
  gd ((inv ok_LI ea_LI
          [(0, false, [C.tr false (T.arr 1 (atL Ws.cs l x16.toNat 2).ln (atL Ws.cs l x16.toNat 2).fn)])]).length.ble
    (inv ok_LI ea_LI
        [(0, false, [C.tr false (T.arr 1 (atL Ws.cs l x16.toNat 2).ln (atL Ws.cs l x16.toNat 2).fn)])]).length &&
  true) <|
  gd ((inv ok_LI ea_LI
          [(0, false, [C.tr false (T.arr 1 (atL Ws.cs l x16.toNat 3).ln (atL Ws.cs l x16.toNat 3).fn)])]).length.ble
    (inv ok_LI ea_LI
        [(0, false, [C.tr false (T.arr 1 (atL Ws.cs l x16.toNat 3).ln (atL Ws.cs l x16.toNat 3).fn)])]).length &&
  true) <|
  gd ((0 + x16.toNat).blt nx12 && true && true) <|
  gd ((0 + x16.toNat).blt nx12 && true && true) <|
  gd ((0 + x16.toNat).blt nx12 && true && true) <|
  gd ((0 + x16.toNat).blt nx12 && true && true) <|
  gd ((0 + x16.toNat).blt nx12 && true && true) <|
  K .normal (st_toWsS_1 l (nx12) (setF (0 + x16.toNat) (1 + 1 + 1 + 1) (T.int IntKind.i64 (atL Ws.cs l x16.toNat 4).toI)
  (setF (0 + x16.toNat) (1 + 1 + 1)
    (T.arr 1
      (inv ok_LI ea_LI
          [(0, false, [C.tr false (T.arr 1 (atL Ws.cs l x16.toNat 3).ln (atL Ws.cs l x16.toNat 3).fn)])]).length
      (atL rowI
        (inv ok_LI ea_LI
          [(0, false, [C.tr false (T.arr 1 (atL Ws.cs l x16.toNat 3).ln (atL Ws.cs l x16.toNat 3).fn)])])))
    (setF (0 + x16.toNat) (1 + 1)
      (T.arr 1
        (inv ok_LI ea_LI
            [(0, false, [C.tr false (T.arr 1 (atL Ws.cs l x16.toNat 2).ln (atL Ws.cs l x16.toNat 2).fn)])]).length
        (atL rowI
          (inv ok_LI ea_LI
            [(0, false, [C.tr false (T.arr 1 (atL Ws.cs l x16.toNat 2).ln (atL Ws.cs l x16.toNat 2).fn)])])))
      (setF (0 + x16.toNat) 1 (T.int IntKind.i64 (atL Ws.cs l x16.toNat 1).toI)
        (setF (0 + x16.toNat) 0 (T.int IntKind.i64 (atL Ws.cs l x16.toNat 0).toI) fx12))))) (IntKind.i64.wrap (x16 + 1)))
 else
 K (.exit 0) (ex_toWsS_1_1 l nx12 fx12 x16)) := by kernel_rfl
theorem post_toWsS_1_1 (l : List Ws) (nx12 : Nat) (fx12 : Nat → Nat → T) (x16 : Int) (n : Nat) : contAt prog (tabS [(i_toWs, e_toWs)]) kp_toWsS F_toWsS ts_toWsS [1, 1, 0, 1, 0] [] n (.exit 0) (ex_toWsS_1_1 l nx12 fx12 x16) = (
 gd (nx12.ble nx12 && true) <|
 gd (nx12.ble nx12 && true) <|
 some ([(false, [.tr true (.arr (5) (nx12) (fx12))])], [(false, [])])) := by kernel_rfl
theorem pre_toWsS (l : List Ws) (n : Nat) : body prog (tabS [(i_toWs, e_toWs)]) kp_toWsS n F_toWsS [aT (eL 5 Ws.cs l)] = (
 gd (decide (0 ≤ (↑l.length : Int)) &&
  (decide ((↑l.length : Int) ≤ (↑l.length : Int)) &&
    (((↑l.length : Int).toNat * 72).ble 70368744177664 && (↑l.length : Int).toNat.ble 70368744177664))) <|
 gd ((↑l.length : Int).toNat.ble (↑l.length : Int).toNat && true) <|
 loopAt prog (tabS [(i_toWs, e_toWs)]) kp_toWsS F_toWsS [1, 1, 0, 1, 0] n n (st_toWsS_1 l ((↑l.length : Int).toNat) (cutT 0 (↑l.length : Int).toNat (zeroT prog 160)) (0)) (contAt prog (tabS [(i_toWs, e_toWs)]) kp_toWsS F_toWsS ts_toWsS [1, 1, 0, 1, 0] [] n)) := by kernel_rfl
theorem body_toWsS (l : List Ws) (hl : ok_WsS l) : body prog (tabS [(i_toWs, e_toWs)]) kp_toWsS (l.length + 1) F_toWsS (ea_WsS l) = some (erT 1 (eL 5 Ws.cs l)) := by
  have hl' : l.length ≤ LM := hl.1
  have hlm := lm
  unfold ea_WsS
  rw [pre_toWsS]
  simp only [ge0_d, Int.toNat_natCast, ble_d, Int.le_refl, Nat.le_refl, decide_true, Bool.and_true, Bool.true_and, gd_true]
  rw [decide_eq_true (show l.length * 72 ≤ 70368744177664 by omega), decide_eq_true (show l.length ≤ 70368744177664 by omega)]
  simp only [Bool.and_true, gd_true]
  rw [zero_fill (m := 5) (row := Ws.cs) (d := default) l.length (fun j k => by rcases k with _ | _ | _ | _ | _ | _ <;> kernel_rfl), ← fill_zero l default]
  have hst : st_toWsS_1 l l.length (atL Ws.cs (fill l default 0)) 0 = (fun i : Nat => st_toWsS_1 l l.length (atL Ws.cs (fill l default i)) (i : Nat)) 0 := rfl
  rw [hst, forLoop l.length (fun i : Nat => st_toWsS_1 l l.length (atL Ws.cs (fill l default i)) (i : Nat)) (ex_toWsS_1_1 l l.length (atL Ws.cs l) l.length) 0 (fun i K hi => ?_) (fun K => ?_) _ (Nat.le_refl _)]
  · rw [post_toWsS_1_1]
    simp only [ble_d, Nat.le_refl, decide_true, gd_true, Bool.and_true]
    rfl
  · have hx := List.getElem?_eq_getElem hi
    have h0 := (hl.2 _ (List.getElem_mem hi)).1
    have h1 := (hl.2 _ (List.getElem_mem hi)).2
    have hd : (fill l default i)[i]? = some default := by
      unfold fill
      rw [List.getElem?_append_right (by simp; omega), List.getElem?_replicate, if_pos (by simp; omega)]
    rw [round_toWsS_1]
    simp only [lt_d, ge0_d, Int.toNat_natCast, blt_d, ble_self, beq_self, decide_true, cond_true, Bool.and_self, Bool.and_true, Bool.true_and, gd_true, Nat.zero_add, List.getD_cons_zero, List.getD_cons_succ, isI_int, toI_int, isB_bool, toB_bool, eL_T, arr_ln, arr_fn, arr_wd, arr_is, arr_get, hi, atL_of hx, Ws.cs, dm_toLI h0, iv_toLI h0, dm_toLI h1, iv_toLI h1]
    rw [wrapS (by omega), ← fill_set l default hx]
    congr 3
    refine set_atL (by rw [fill_len l default (by omega)]; exact hi) fun j' k' => ?_
    by_cases e : j' = i
    · subst e
      rcases k' with _ | _ | _ | _ | _ | k' <;> simp [setF_d, Ws.cs, atL_of hd, eL_T]
    · simp [setF_d, e]
  · rw [round_toWsS_1, fill_all]
    simp only [lt_d, Nat.lt_irrefl, decide_false, cond_false]
theorem s_toWsS : EntOk prog i_toWsS e_toWsS := ent_ok ea_WsS_inj fun l hl =>
  body_sound (φ := (tabS [(i_toWs, e_toWs)])) (tabS_cons s_toWs tabS_nil) mixed (kp := kp_toWsS) (n := l.length + 1) func79 (c := bodyOf F_toWsS) (by kernel_rfl) (body_toWsS l hl) (name_ok (by kernel_rfl))
def i_eqWsS : Nat := 90
noncomputable abbrev F_eqWsS : Func := f90
def kp_eqWsS : List (Nat × List Nat) := [(0, [0, 4]), (1, [0, 4, 40]), (2, [16]), (3, [0, 4, 20]), (4, [0, 4, 20, 56]), (5, [0, 4, 20]), (6, [0, 4, 20, 104]), (7, [16]), (8, [16])]
def ts_eqWsS : List Nat := [0, 0]
def st_eqWsS_1 (l r : List Ws) (x20 : Int) : St := [(0, ⟨z0, [(false, [.tr false (eL 5 Ws.cs l)])]⟩), (4, ⟨z0, [(false, [.tr false (eL 5 Ws.cs r)])]⟩), (20, ⟨z0, [(false, [.tr true (T.int IntKind.i64 x20)])]⟩)]
def ex_eqWsS_1_1 (l r : List Ws) (x20 : Int) : St := [(16, ⟨z0, [(false, [.tr true (T.bool false)])]⟩)]
def ex_eqWsS_1_2 (l r : List Ws) (x20 : Int) : St := [(0, ⟨z0, [(false, [.tr false (eL 5 Ws.cs l)])]⟩), (4, ⟨z0, [(false, [.tr false (eL 5 Ws.cs r)])]⟩), (20, ⟨z0, [(false, [.tr true (T.int IntKind.i64 x20)])]⟩), (56, ⟨z0, []⟩)]
theorem round_eqWsS_1 (l r : List Ws) (x20 : Int) (n : Nat) (K : Ex → St → Res) : roundAt prog (tabS [(i_eqWs, e_eqWs)]) kp_eqWsS F_eqWsS [1, 1, 0, 1, 0] n (st_eqWsS_1 l r x20) K = (
 bif decide (x20 < (↑l.length : Int)) then
  gd (decide (0 ≤ x20) && (x20.toNat.blt l.length && true)) <|
  gd (T.isI IntKind.i64 (atL Ws.cs l x20.toNat 0) && T.isI IntKind.i64 (atL Ws.cs l x20.toNat 1) &&
      ((atL Ws.cs l x20.toNat 2).isArr && (atL Ws.cs l x20.toNat 2).wd.beq 1) &&
    ((atL Ws.cs l x20.toNat 3).isArr && (atL Ws.cs l x20.toNat 3).wd.beq 1) &&
  T.isI IntKind.i64 (atL Ws.cs l x20.toNat 4)) <|
  gd (decide (0 ≤ x20) && (x20.toNat.blt r.length && true)) <|
  gd (T.isI IntKind.i64 (atL Ws.cs r x20.toNat 0) && T.isI IntKind.i64 (atL Ws.cs r x20.toNat 1) &&
      ((atL Ws.cs r x20.toNat 2).isArr && (atL Ws.cs r x20.toNat 2).wd.beq 1) &&
    ((atL Ws.cs r x20.toNat 3).isArr && (atL Ws.cs r x20.toNat 3).wd.beq 1) &&
  T.isI IntKind.i64 (atL Ws.cs r x20.toNat 4)) <|
  bif (atL Ws.cs l x20.toNat 0).toI != (atL Ws.cs r x20.toNat 0).toI then
   K .ret (ex_eqWsS_1_1 l r x20)
  else
  bif (atL Ws.cs l x20.toNat 1).toI != (atL Ws.cs r x20.toNat 1).toI then
   K .ret (ex_eqWsS_1_1 l r x20)
  else
  gd (dom ok2_LI ea2_LI
  [(0, false, [C.tr false (T.arr 1 (atL Ws.cs l x20.toNat 2).ln (atL Ws.cs l x20.toNat 2).fn)]),
    (0, false, [C.tr false (T.arr 1 (atL Ws.cs r x20.toNat 2).ln (atL Ws.cs r x20.toNat 2).fn)])]) <|
  bif !f_eqLI
    (inv ok2_LI ea2_LI
      [(0, false, [C.tr false (T.arr 1 (atL Ws.cs l x20.toNat 2).ln (atL Ws.cs l x20.toNat 2).fn)]),
        (0, false, [C.tr false (T.arr 1 (atL Ws.cs r x20.toNat 2).ln (atL Ws.cs r x20.toNat 2).fn)])]) then
   K .ret (ex_eqWsS_1_1 l r x20)
  else
  gd (dom ok2_LI ea2_LI
  [(0, false, [C.tr false (T.arr 1 (atL Ws.cs l x20.toNat 3).ln (atL Ws.cs l x20.toNat 3).fn)]),
    (0, false, [C.tr false (T.arr 1 (atL Ws.cs r x20.toNat 3).ln (atL Ws.cs r x20.toNat 3).fn)])]) <|
  bif !f_eqLI
    (inv ok2_LI ea2_LI
      [(0, false, [C.tr false (T.arr 1 (atL Ws.cs l x20.toNat 3).ln (atL Ws.cs l x20.toNat 3).fn)]),
        (0, false, [C.tr false (T.arr 1 (atL Ws.cs r x20.toNat 3).ln (atL Ws.cs r x20.toNat 3).fn)])]) then
   K .ret (ex_eqWsS_1_1 l r x20)
  else
  bif (atL Ws.cs l x20.toNat 4).toI != (atL Ws.cs r x20.toNat 4).toI then
   K .ret (ex_eqWsS_1_1 l r x20)
  else
  K .normal (st_eqWsS_1 l r (IntKind.i64.wrap (x20 + 1)))
 else
 K (.exit 0) (ex_eqWsS_1_2 l r x20)) := by kernel_rfl
theorem post_eqWsS_1_1 (l r : List Ws) (x20 : Int) (n : Nat) : contAt prog (tabS [(i_eqWs, e_eqWs)]) kp_eqWsS F_eqWsS ts_eqWsS [1, 1, 0, 1, 0] [] n .ret (ex_eqWsS_1_1 l r x20) = (
 some ([(false, [.tr true (T.bool false)])], [(false, []), (false, [])])) := by kernel_rfl
theorem post_eqWsS_1_2 (l r : List Ws) (x20 : Int) (n : Nat) : contAt prog (tabS [(i_eqWs, e_eqWs)]) kp_eqWsS F_eqWsS ts_eqWsS [1, 1, 0, 1, 0] [] n (.exit 0) (ex_eqWsS_1_2 l r x20) = (
 some ([(false, [.tr true (T.bool true)])], [(false, []), (false, [])])) := by kernel_rfl
theorem pre_eqWsS (l r : List Ws) (n : Nat) : body prog (tabS [(i_eqWs, e_eqWs)]) kp_eqWsS n F_eqWsS [aT (eL 5 Ws.cs l), aT (eL 5 Ws.cs r)] = (
 bif (↑l.length : Int) != (↑r.length : Int) then
  some ([(false, [.tr true (T.bool false)])], [(false, []), (false, [])])
 else
 loopAt prog (tabS [(i_eqWs, e_eqWs)]) kp_eqWsS F_eqWsS [1, 1, 0, 1, 0] n n (st_eqWsS_1 l r (0)) (contAt prog (tabS [(i_eqWs, e_eqWs)]) kp_eqWsS F_eqWsS ts_eqWsS [1, 1, 0, 1, 0] [] n)) := by kernel_rfl
theorem body_eqWsS (l r : List Ws) (hl : okq_WsS l) : body prog (tabS [(i_eqWs, e_eqWs)]) kp_eqWsS (l.length + 1) F_eqWsS (ea2_WsS (l, r)) = some (erB 2 (f_eqWsS (l, r))) := by
  have hbm := bm
  have hl' : l.length ≤ BM := hl.1
  unfold ea2_WsS f_eqWsS
  dsimp only
  rw [pre_eqWsS, int_ne]
  by_cases h : l.length = r.length
  · rw [decide_eq_true (by omega)]
    simp only [Bool.not_true, cond_false]
    have hst : st_eqWsS_1 l r 0 = (fun i : Nat => st_eqWsS_1 l r (i : Nat)) 0 := rfl
    rw [hst, eqS l r h (fun i : Nat => st_eqWsS_1 l r (i : Nat)) (fun i : Nat => ex_eqWsS_1_1 l r (i : Nat)) (ex_eqWsS_1_2 l r l.length) (fun i x y K hx hy => ?_) (fun K => ?_) (fun i => post_eqWsS_1_1 l r _ _) (post_eqWsS_1_2 l r _ _) _ (Nat.le_refl _)]
    · by_cases e : l = r
      · rw [if_pos e, decide_eq_true e]; rfl
      · rw [if_neg e, decide_eq_false e]; rfl
    · have hi := (List.getElem?_eq_some_iff.1 hx).1
      have hi' := (List.getElem?_eq_some_iff.1 hy).1
      have hxm : x ∈ l := List.mem_of_getElem? hx
      have h0 := (hl.2 _ hxm).1
      have h1 := (hl.2 _ hxm).2
      rw [round_eqWsS_1]
      simp only [lt_d, ge0_d, Int.toNat_natCast, blt_d, ble_self, beq_self, decide_true, cond_true, Bool.and_self, Bool.and_true, Bool.true_and, gd_true, Nat.zero_add, List.getD_cons_zero, List.getD_cons_succ, isI_int, toI_int, isB_bool, toB_bool, eL_T, arr_ln, arr_fn, arr_wd, arr_is, arr_get, hi, hi', atL_of hx, atL_of hy, Ws.cs, int_ne, bool_ne, bool_eq, dm_eqLI h0, iv_eqLI h0, d_eqLI, dm_eqLI h1, iv_eqLI h1, d_eqLI, chain]
      rw [wrapS (by omega)]
      have hxy : (x.slot = y.slot ∧ x.first = y.first ∧ x.tags = y.tags ∧ x.chunks = y.chunks ∧ x.done = y.done) ↔ x = y := by
        rcases x with ⟨x0, x1, x2, x3, x4⟩
        rcases y with ⟨y0, y1, y2, y3, y4⟩
        simp [and_assoc]
      simp only [hxy]
    · rw [round_eqWsS_1]
      simp only [lt_d, Nat.lt_irrefl, decide_false, cond_false]
  · rw [decide_eq_false (by omega)]
    have : ¬ l = r := fun e => h (by rw [e])
    rw [decide_eq_false this]
    rfl
theorem s_eqWsS : EntOk prog i_eqWsS e_eqWsS := ent_ok ea2_WsS_inj fun x hx =>
  body_sound (φ := (tabS [(i_eqWs, e_eqWs)])) (tabS_cons s_eqWs tabS_nil) mixed (kp := kp_eqWsS) (n := x.1.length + 1) func90 (c := bodyOf F_eqWsS) (by kernel_rfl) (body_eqWsS x.1 x.2 hx) (name_ok (by kernel_rfl))
theorem dm_toWsS {l : List Ws} (h : ok_WsS l) : dom ok_WsS ea_WsS [(0, false, [C.tr false (T.arr 5 l.length (atL Ws.cs l))])] = true := dom_ea (ea := ea_WsS) (x := l) h
theorem iv_toWsS {l : List Ws} (h : ok_WsS l) : inv ok_WsS ea_WsS [(0, false, [C.tr false (T.arr 5 l.length (atL Ws.cs l))])] = l := inv_ea ea_WsS_inj (x := l) h
theorem dm_eqWsS {l r : List Ws} (h : okq_WsS l) : dom ok2_WsS ea2_WsS [(0, false, [C.tr false (T.arr 5 l.length (atL Ws.cs l))]), (0, false, [C.tr false (T.arr 5 r.length (atL Ws.cs r))])] = true := dom_ea (ea := ea2_WsS) (x := (l, r)) h
theorem iv_eqWsS {l r : List Ws} (h : okq_WsS l) : inv ok2_WsS ea2_WsS [(0, false, [C.tr false (T.arr 5 l.length (atL Ws.cs l))]), (0, false, [C.tr false (T.arr 5 r.length (atL Ws.cs r))])] = (l, r) := inv_ea ea2_WsS_inj (x := (l, r)) h
theorem d_eqWsS (l r : List Ws) : f_eqWsS (l, r) = decide (l = r) := rfl
def n1_WsS (x : Ws) : Nat := n_LI x.tags + n_LI x.chunks
def n_WsS (l : List Ws) : Nat := l.length + cntL n1_WsS l
def okz_WsS (l : List Ws) : Prop := l.length ≤ ZM ∧ ∀ x ∈ l, okz_LI x.tags ∧ okz_LI x.chunks
def okzz_WsS (x : List Ws × Int) : Prop := okz_WsS x.1 ∧ 0 ≤ x.2 ∧ x.2 ≤ LM
def eaz_WsS (x : List Ws × Int) : List Arg := [aT (eL 5 Ws.cs x.1), aI x.2]
def f_szWsS (x : List Ws × Int) : Int := if (n_WsS x.1 : Int) ≤ x.2 then x.2 - n_WsS x.1 else -1
noncomputable def e_szWsS : Ent := ent [] okzz_WsS eaz_WsS (erI 2) f_szWsS
theorem eaz_WsS_inj (x y : List Ws × Int) (h : eaz_WsS x = eaz_WsS y) : x = y := by
  simp only [eaz_WsS, aI, aT, List.cons.injEq, Prod.mk.injEq, true_and, and_true, C.tr.injEq, T.int.injEq] at h
  exact Prod.ext (eL_inj Ws.cs_inj h.1) h.2
theorem dm_szWsS {l : List Ws} {k : Int} (h : okzz_WsS (l, k)) : dom okzz_WsS eaz_WsS [(0, false, [C.tr false (T.arr 5 l.length (atL Ws.cs l))]), (0, false, [C.tr false (T.int IntKind.i64 k)])] = true := dom_ea (ea := eaz_WsS) (x := (l, k)) h
theorem iv_szWsS {l : List Ws} {k : Int} (h : okzz_WsS (l, k)) : inv okzz_WsS eaz_WsS [(0, false, [C.tr false (T.arr 5 l.length (atL Ws.cs l))]), (0, false, [C.tr false (T.int IntKind.i64 k)])] = (l, k) := inv_ea eaz_WsS_inj (x := (l, k)) h
theorem y_szWsS {l : List Ws} {k : Int} (h : (n_WsS l : Int) ≤ k) : f_szWsS (l, k) = k - n_WsS l := if_pos h
theorem n_szWsS {l : List Ws} {k : Int} (h : ¬ (n_WsS l : Int) ≤ k) : f_szWsS (l, k) = -1 := if_neg h
def i_szWsS : Nat := 72
noncomputable abbrev F_szWsS : Func := f72
def kp_szWsS : List (Nat × List Nat) := [(0, [0, 4]), (1, [0, 4]), (2, [0, 4, 44]), (3, [16]), (4, [0, 4, 20]), (5, [0, 4, 20, 60]), (6, [0, 4, 20]), (7, [0, 4, 20]), (8, [0, 4, 20, 100]), (9, [16]), (10, [16])]
def ts_szWsS : List Nat := [0, 0]
def st_szWsS_1 (l : List Ws) (k : Int) (x4 : Int) (x20 : Int) : St := [(0, ⟨z0, [(false, [.tr false (eL 5 Ws.cs l)])]⟩), (4, ⟨z0, [(false, [.tr true (T.int IntKind.i64 x4)])]⟩), (20, ⟨z0, [(false, [.tr true (T.int IntKind.i64 x20)])]⟩)]
def ex_szWsS_1_1 (l : List Ws) (k : Int) (x4 : Int) (x20 : Int) : St := [(16, ⟨z0, [(false, [.tr true (T.int IntKind.i64 (-1))])]⟩)]
def ex_szWsS_1_2 (l : List Ws) (k : Int) (x4 : Int) (x20 : Int) : St := [(0, ⟨z0, [(false, [.tr false (eL 5 Ws.cs l)])]⟩), (4, ⟨z0, [(false, [.tr true (T.int IntKind.i64 x4)])]⟩), (20, ⟨z0, [(false, [.tr true (T.int IntKind.i64 x20)])]⟩), (60, ⟨z0, []⟩)]
theorem round_szWsS_1 (l : List Ws) (k : Int) (x4 : Int) (x20 : Int) (n : Nat) (K : Ex → St → Res) : roundAt prog (tabS [(i_szWs, e_szWs)]) kp_szWsS F_szWsS [1, 1, 1, 0, 1, 0] n (st_szWsS_1 l k x4 x20) K = (
 bif decide (x20 < (↑l.length : Int)) then
  gd (decide (0 ≤ x20) && (x20.toNat.blt l.length && true)) <|
  gd (T.isI IntKind.i64 (atL Ws.cs l x20.toNat 0) && T.isI IntKind.i64 (atL Ws.cs l x20.toNat 1) &&
      ((atL Ws.cs l x20.toNat 2).isArr && (atL Ws.cs l x20.toNat 2).wd.beq 1) &&
    ((atL Ws.cs l x20.toNat 3).isArr && (atL Ws.cs l x20.toNat 3).wd.beq 1) &&
  T.isI IntKind.i64 (atL Ws.cs l x20.toNat 4)) <|
  bif decide (IntKind.i64.wrap (x4 - (↑(atL Ws.cs l x20.toNat 2).ln : Int)) < 0) then
   K .ret (ex_szWsS_1_1 l k x4 x20)
  else
  bif decide (IntKind.i64.wrap (x4 - (↑(atL Ws.cs l x20.toNat 2).ln : Int)) < 0) then
   K .ret (ex_szWsS_1_1 l k x4 x20)
  else
  bif decide
  (IntKind.i64.wrap
      (IntKind.i64.wrap (x4 - (↑(atL Ws.cs l x20.toNat 2).ln : Int)) - (↑(atL Ws.cs l x20.toNat 3).ln : Int)) <
    0) then
   K .ret (ex_szWsS_1_1 l k x4 x20)
  else
  bif decide
  (IntKind.i64.wrap
      (IntKind.i64.wrap (x4 - (↑(atL Ws.cs l x20.toNat 2).ln : Int)) - (↑(atL Ws.cs l x20.toNat 3).ln : Int)) <
    0) then
   K .ret (ex_szWsS_1_1 l k x4 x20)
  else
  bif decide
  (IntKind.i64.wrap
      (IntKind.i64.wrap (x4 - (↑(atL Ws.cs l x20.toNat 2).ln : Int)) - (↑(atL Ws.cs l x20.toNat 3).ln : Int)) <
    0) then
   K .ret (ex_szWsS_1_1 l k x4 x20)
  else
  K .normal (st_szWsS_1 l k (IntKind.i64.wrap
  (IntKind.i64.wrap (x4 - (↑(atL Ws.cs l x20.toNat 2).ln : Int)) - (↑(atL Ws.cs l x20.toNat 3).ln : Int))) (IntKind.i64.wrap (x20 + 1)))
 else
 K (.exit 0) (ex_szWsS_1_2 l k x4 x20)) := by kernel_rfl
theorem post_szWsS_1_1 (l : List Ws) (k : Int) (x4 : Int) (x20 : Int) (n : Nat) : contAt prog (tabS [(i_szWs, e_szWs)]) kp_szWsS F_szWsS ts_szWsS [1, 1, 1, 0, 1, 0] [] n .ret (ex_szWsS_1_1 l k x4 x20) = (
 some ([(false, [.tr true (T.int IntKind.i64 (-1))])], [(false, []), (false, [])])) := by kernel_rfl
theorem post_szWsS_1_2 (l : List Ws) (k : Int) (x4 : Int) (x20 : Int) (n : Nat) : contAt prog (tabS [(i_szWs, e_szWs)]) kp_szWsS F_szWsS ts_szWsS [1, 1, 1, 0, 1, 0] [] n (.exit 0) (ex_szWsS_1_2 l k x4 x20) = (
 some ([(false, [.tr true (T.int IntKind.i64 x4)])], [(false, []), (false, [])])) := by kernel_rfl
theorem pre_szWsS (l : List Ws) (k : Int) (n : Nat) : body prog (tabS [(i_szWs, e_szWs)]) kp_szWsS n F_szWsS [aT (eL 5 Ws.cs l), aI k] = (
 bif decide (IntKind.i64.wrap (k - (↑l.length : Int)) < 0) then
  some ([(false, [.tr true (T.int IntKind.i64 (-1))])], [(false, []), (false, [])])
 else
 loopAt prog (tabS [(i_szWs, e_szWs)]) kp_szWsS F_szWsS [1, 1, 1, 0, 1, 0] n n (st_szWsS_1 l k (IntKind.i64.wrap (k - (↑l.length : Int))) (0)) (contAt prog (tabS [(i_szWs, e_szWs)]) kp_szWsS F_szWsS ts_szWsS [1, 1, 1, 0, 1, 0] [] n)) := by kernel_rfl
theorem round1_szWsS (l : List Ws) (k : Int) (hl : okz_WsS l) {n : Nat} (i : Nat) (x : Ws) (K : Ex → St → Res) (hx : l[i]? = some x) (hr : (cntL n1_WsS (l.take i) : Int) ≤ k - (l.length : Int)) (hk1 : k ≤ LM) : roundAt prog (tabS [(i_szWs, e_szWs)]) kp_szWsS F_szWsS [1, 1, 1, 0, 1, 0] n (st_szWsS_1 l k (k - (l.length : Int) - cntL n1_WsS (l.take i)) (i : Nat)) K = bif decide (k - (l.length : Int) - cntL n1_WsS (l.take i) < n1_WsS x) then K .ret (ex_szWsS_1_1 l k (k - (l.length : Int) - cntL n1_WsS (l.take i)) (i : Nat)) else K .normal (st_szWsS_1 l k (k - (l.length : Int) - cntL n1_WsS (l.take (i + 1))) ((i + 1 : Nat) : Int)) := by
    have hzm := zm
    have hlm := lm
    have hl' : l.length ≤ ZM := hl.1
    have hi := (List.getElem?_eq_some_iff.1 hx).1
    have hxm : x ∈ l := List.mem_of_getElem? hx
    have hc := cntL_take n1_WsS l hx
    have hcx : n1_WsS x = x.tags.length + x.chunks.length := rfl
    rw [hc, round_szWsS_1]
    obtain ⟨k0, hk⟩ : ∃ k0, k0 = k - (l.length : Int) - (cntL n1_WsS (l.take i) : Int) := ⟨_, rfl⟩
    have hk2 : k - (l.length : Int) - ((cntL n1_WsS (l.take i) + n1_WsS x : Nat) : Int) = k0 - (x.tags.length : Int) - (x.chunks.length : Int) := by omega
    rw [hk2, ← hk]
    have hk3 : 0 ≤ k0 := by omega
    have hk4 : k0 ≤ LM := by omega
    simp (disch := omega) only [lt_d, ge0_d, Int.toNat_natCast, blt_d, ble_self, beq_self, decide_true, cond_true, Bool.and_self, Bool.and_true, Bool.true_and, gd_true, Nat.zero_add, List.getD_cons_zero, List.getD_cons_succ, isI_int, toI_int, isB_bool, toB_bool, eL_T, arr_ln, arr_fn, arr_wd, arr_is, arr_get, hi, atL_of hx, Ws.cs, wrapS]
    have h0 : x.tags.length ≤ ZM := (hl.2 _ hxm).1
    have h1 : x.chunks.length ≤ ZM := (hl.2 _ hxm).2
    try simp (disch := omega) only [wrapI]
    by_cases e0 : k0 - (x.tags.length : Int) < 0
    case pos =>
      rw [decide_eq_true e0, decide_eq_true (show k0 < (n1_WsS x : Int) by omega)]
      rfl
    simp (disch := omega) only [decide_eq_false e0, cond_false, wrapI]
    try simp (disch := omega) only [wrapI]
    by_cases e1 : k0 - (x.tags.length : Int) - (x.chunks.length : Int) < 0
    case pos =>
      rw [decide_eq_true e1, decide_eq_true (show k0 < (n1_WsS x : Int) by omega)]
      rfl
    simp (disch := omega) only [decide_eq_false e1, cond_false, wrapI]
    rw [decide_eq_false (show ¬ k0 < (n1_WsS x : Int) by omega)]
    simp only [cond_false]
    try congr 2
    try omega
theorem body_szWsS (l : List Ws) (k : Int) (h : okzz_WsS (l, k)) : body prog (tabS [(i_szWs, e_szWs)]) kp_szWsS (l.length + 1) F_szWsS (eaz_WsS (l, k)) = some (erI 2 (f_szWsS (l, k))) := by
  obtain ⟨hl, hk0, hk1⟩ := h
  have hzm := zm
  have hlm := lm
  dsimp only at hl hk0 hk1
  have hl' : l.length ≤ ZM := hl.1
  have hn : n_WsS l = l.length + cntL n1_WsS l := rfl
  unfold eaz_WsS f_szWsS
  dsimp only
  rw [pre_szWsS]
  simp (disch := omega) only [wrapI]
  by_cases hs : k - (l.length : Int) < 0
  · rw [decide_eq_true hs, if_neg (by omega)]
    rfl
  · rw [decide_eq_false hs]
    simp only [cond_false]
    have hst : st_szWsS_1 l k (k - (l.length : Int)) 0 = (fun i : Nat => st_szWsS_1 l k (k - (l.length : Int) - cntL n1_WsS (l.take i)) (i : Nat)) 0 := by simp [cntL]
    rw [hst, szS n1_WsS l (k - (l.length : Int)) (by omega) (fun i : Nat => st_szWsS_1 l k (k - (l.length : Int) - cntL n1_WsS (l.take i)) (i : Nat)) (fun i : Nat => ex_szWsS_1_1 l k (k - (l.length : Int) - cntL n1_WsS (l.take i)) (i : Nat)) (ex_szWsS_1_2 l k (k - (l.length : Int) - cntL n1_WsS l) l.length) (fun i x K hx hr => ?_) (fun K hr => ?_) (fun i => post_szWsS_1_1 l k _ _ _) (post_szWsS_1_2 l k _ _ _) _ (Nat.le_refl _)]
    · by_cases hq : (cntL n1_WsS l : Int) ≤ k - (l.length : Int)
      · rw [if_pos hq, if_pos (by omega), show k - (l.length : Int) - (cntL n1_WsS l : Int) = k - (n_WsS l : Int) by omega]
        rfl
      · rw [if_neg hq, if_neg (by omega)]
        rfl
    · exact round1_szWsS l k hl i x K hx hr hk1
    · rw [round_szWsS_1]
      simp only [lt_d, Nat.lt_irrefl, decide_false, cond_false, List.take_length]
theorem s_szWsS : EntOk prog i_szWsS e_szWsS := ent_ok eaz_WsS_inj fun x hx =>
  body_sound (φ := (tabS [(i_szWs, e_szWs)])) (tabS_cons s_szWs tabS_nil) mixed (kp := kp_szWsS) (n := x.1.length + 1) func72 (c := bodyOf F_szWsS) (by kernel_rfl) (body_szWsS x.1 x.2 hx) (name_ok (by kernel_rfl))
end Go.Mach.F
namespace Go.Mach.F
open Go Go.Mach Go.Proofs.Try
--=set_option maxRecDepth 100000
theorem Pl.cs_inj (x y : Pl) (h : ∀ k, x.cs.getD k .hole = y.cs.getD k .hole) : x = y := by
  have h0 := h 0; have h1 := h 1; have h2 := h 2
  rcases x with ⟨x0, x1, x2⟩
  rcases y with ⟨y0, y1, y2⟩
  simp only [Pl.cs, List.getD_cons_zero, List.getD_cons_succ, T.int.injEq, T.bool.injEq, true_and] at h0 h1 h2
  replace h0 := eB_inj h0
  replace h1 := eI_inj h1
  replace h2 := eI_inj h2
  subst h0; subst h1; subst h2
  rfl
theorem Pl.cs_ext {x y : Pl} (h : x.cs = y.cs) : x = y := Pl.cs_inj x y fun k => by rw [h]
theorem Wd.cs_inj (x y : Wd) (h : ∀ k, x.cs.getD k .hole = y.cs.getD k .hole) : x = y := by
  have h0 := h 0; have h1 := h 1; have h2 := h 2; have h3 := h 3; have h4 := h 4; have h5 := h 5; have h6 := h 6; have h7 := h 7; have h8 := h 8; have h9 := h 9; have h10 := h 10; have h11 := h 11
  rcases x with ⟨⟨x0, x1, x2, x3, x4, x5⟩, ⟨x6, x7, x8⟩, x9, x10, x11⟩
  rcases y with ⟨⟨y0, y1, y2, y3, y4, y5⟩, ⟨y6, y7, y8⟩, y9, y10, y11⟩
  simp only [Wd.cs, List.getD_cons_zero, List.getD_cons_succ, T.int.injEq, T.bool.injEq, true_and] at h0 h1 h2 h3 h4 h5 h6 h7 h8 h9 h10 h11
  replace h6 := eB_inj h6
  replace h7 := eI_inj h7
  replace h8 := eI_inj h8
  replace h9 := eL_inj Nd.cs_inj h9
  replace h10 := eL_inj Ws.cs_inj h10
  replace h11 := eI_inj h11
  subst h0; subst h1; subst h2; subst h3; subst h4; subst h5; subst h6; subst h7; subst h8; subst h9; subst h10; subst h11
  rfl
theorem Wd.cs_ext {x y : Wd} (h : x.cs = y.cs) : x = y := Wd.cs_inj x y fun k => by rw [h]
def i_toPl : Nat := 77
noncomputable abbrev F_toPl : Func := f77
def kp_toPl : List (Nat × List Nat) := [(0, [4, 5, 8, 9, 12, 13, 64]), (1, [4, 5, 8, 9, 12, 13, 64]), (2, [4, 5, 8, 9, 12, 13, 64]), (3, [4, 5, 8, 9, 12, 13, 64]), (4, [8, 9, 12, 13, 64]), (5, [8, 9, 12, 13, 64])]
noncomputable def e_toPl : Ent := inl [] prog (tabS [(i_toLB, e_toLB), (i_toLI, e_toLI)]) kp_toPl 0 F_toPl
theorem s_toPl : EntOk prog i_toPl e_toPl := inl_ok (tabS_cons s_toLB (tabS_cons s_toLI tabS_nil)) mixed (c := bodyOf F_toPl) func77 (by kernel_rfl) (name_ok (by kernel_rfl))
def i_eqPl : Nat := 88
noncomputable abbrev F_eqPl : Func := f88
def kp_eqPl : List (Nat × List Nat) := [(0, [8, 9, 12, 13]), (1, [8, 9, 12, 13, 40]), (2, [16]), (3, [8, 9, 12, 13, 64]), (4, [16]), (5, [88]), (6, [16]), (7, [16])]
noncomputable def e_eqPl : Ent := inl [] prog (tabS [(i_eqLB, e_eqLB), (i_eqLI, e_eqLI)]) kp_eqPl 0 F_eqPl
theorem s_eqPl : EntOk prog i_eqPl e_eqPl := inl_ok (tabS_cons s_eqLB (tabS_cons s_eqLI tabS_nil)) mixed (c := bodyOf F_eqPl) func88 (by kernel_rfl) (name_ok (by kernel_rfl))
def i_szPl : Nat := 70
noncomputable abbrev F_szPl : Func := f70
def kp_szPl : List (Nat × List Nat) := [(0, [4, 8, 9]), (1, [4, 8, 9]), (2, [4, 8, 9, 40]), (3, [16]), (4, [4, 8, 9]), (5, [4, 8, 9, 64]), (6, [16]), (7, [4]), (8, [4, 88]), (9, [16]), (10, [16])]
noncomputable def e_szPl : Ent := inl [] prog (tabS [(i_szLB, e_szLB), (i_szLI, e_szLI)]) kp_szPl 0 F_szPl
theorem s_szPl : EntOk prog i_szPl e_szPl := inl_ok (tabS_cons s_szLB (tabS_cons s_szLI tabS_nil)) mixed (c := bodyOf F_szPl) func70 (by kernel_rfl) (name_ok (by kernel_rfl))
abbrev shTh : List Sh := [.int .i64, .int .i64, .int .i64]
def z_Th (x : Th) : Prop := True
theorem sh_Th {ts : List T} (hh : ShTs ts shTh) : ∃ x : Th, ts = x.cs ∧ z_Th x := by
  obtain ⟨t0, ts, rfl, h0, hh⟩ := shs_cons hh
  obtain ⟨t1, ts, rfl, h1, hh⟩ := shs_cons hh
  obtain ⟨t2, ts, rfl, h2, hh⟩ := shs_cons hh
  obtain rfl := shs_nil hh
  obtain ⟨x0, rfl, _⟩ := sh_int h0
  obtain ⟨x1, rfl, _⟩ := sh_int h1
  obtain ⟨x2, rfl, _⟩ := sh_int h2
  exact ⟨⟨x0, x1, x2⟩, rfl, trivial⟩
theorem sh_ThS {t : T} (h : ShT t (.arr shTh)) : ∃ l : List Th, t = eL 3 Th.cs l ∧ l.length ≤ ZM ∧ ∀ x ∈ l, z_Th x := sh_list z_Th (fun _ => rfl) (fun _ hts => sh_Th hts) h
abbrev shNd : List Sh := [.int .i64, .int .i64, .int .i64, .int .i64, .int .i64, .int .i64, .int .i64, .int .i64, .arr [.int .i64], .int .i64, .int .i64, .arr shTh, .arr [.int .i64]]
def z_Nd (x : Nd) : Prop := okz_LI x.chunks ∧ okz_ThS x.things ∧ okz_LI x.tags
theorem sh_Nd {ts : List T} (hh : ShTs ts shNd) : ∃ x : Nd, ts = x.cs ∧ z_Nd x := by
  obtain ⟨t0, ts, rfl, h0, hh⟩ := shs_cons hh
  obtain ⟨t1, ts, rfl, h1, hh⟩ := shs_cons hh
  obtain ⟨t2, ts, rfl, h2, hh⟩ := shs_cons hh
  obtain ⟨t3, ts, rfl, h3, hh⟩ := shs_cons hh
  obtain ⟨t4, ts, rfl, h4, hh⟩ := shs_cons hh
  obtain ⟨t5, ts, rfl, h5, hh⟩ := shs_cons hh
  obtain ⟨t6, ts, rfl, h6, hh⟩ := shs_cons hh
  obtain ⟨t7, ts, rfl, h7, hh⟩ := shs_cons hh
  obtain ⟨t8, ts, rfl, h8, hh⟩ := shs_cons hh
  obtain ⟨t9, ts, rfl, h9, hh⟩ := shs_cons hh
  obtain ⟨t10, ts, rfl, h10, hh⟩ := shs_cons hh
  obtain ⟨t11, ts, rfl, h11, hh⟩ := shs_cons hh
  obtain ⟨t12, ts, rfl, h12, hh⟩ := shs_cons hh
  obtain rfl := shs_nil hh
  obtain ⟨x0, rfl, _⟩ := sh_int h0
  obtain ⟨x1, rfl, _⟩ := sh_int h1
  obtain ⟨x2, rfl, _⟩ := sh_int h2
  obtain ⟨x3, rfl, _⟩ := sh_int h3
  obtain ⟨x4, rfl, _⟩ := sh_int h4
  obtain ⟨x5, rfl, _⟩ := sh_int h5
  obtain ⟨x6, rfl, _⟩ := sh_int h6
  obtain ⟨x7, rfl, _⟩ := sh_int h7
  obtain ⟨x8, rfl, z8⟩ := sh_LI h8
  obtain ⟨x9, rfl, _⟩ := sh_int h9
  obtain ⟨x10, rfl, _⟩ := sh_int h10
  obtain ⟨x11, rfl, z11, _⟩ := sh_ThS h11
  obtain ⟨x12, rfl, z12⟩ := sh_LI h12
  exact ⟨⟨x0, x1, x2, x3, x4, x5, x6, x7, x8, x9, x10, x11, x12⟩, rfl, ⟨z8, z11, z12⟩⟩
theorem sh_NdS {t : T} (h : ShT t (.arr shNd)) : ∃ l : List Nd, t = eL 13 Nd.cs l ∧ l.length ≤ ZM ∧ ∀ x ∈ l, z_Nd x := sh_list z_Nd (fun _ => rfl) (fun _ hts => sh_Nd hts) h
abbrev shWs : List Sh := [.int .i64, .int .i64, .arr [.int .i64], .arr [.int .i64], .int .i64]
def z_Ws (x : Ws) : Prop := okz_LI x.tags ∧ okz_LI x.chunks
theorem sh_Ws {ts : List T} (hh : ShTs ts shWs) : ∃ x : Ws, ts = x.cs ∧ z_Ws x := by
  obtain ⟨t0, ts, rfl, h0, hh⟩ := shs_cons hh
  obtain ⟨t1, ts, rfl, h1, hh⟩ := shs_cons hh
  obtain ⟨t2, ts, rfl, h2, hh⟩ := shs_cons hh
  obtain ⟨t3, ts, rfl, h3, hh⟩ := shs_cons hh
  obtain ⟨t4, ts, rfl, h4, hh⟩ := shs_cons hh
  obtain rfl := shs_nil hh
  obtain ⟨x0, rfl, _⟩ := sh_int h0
  obtain ⟨x1, rfl, _⟩ := sh_int h1
  obtain ⟨x2, rfl, z2⟩ := sh_LI h2
  obtain ⟨x3, rfl, z3⟩ := sh_LI h3
  obtain ⟨x4, rfl, _⟩ := sh_int h4
  exact ⟨⟨x0, x1, x2, x3, x4⟩, rfl, ⟨z2, z3⟩⟩
theorem sh_WsS {t : T} (h : ShT t (.arr shWs)) : ∃ l : List Ws, t = eL 5 Ws.cs l ∧ l.length ≤ ZM ∧ ∀ x ∈ l, z_Ws x := sh_list z_Ws (fun _ => rfl) (fun _ hts => sh_Ws hts) h
abbrev shWd : List Sh := [.int .i64, .int .i64, .int .i64, .int .i64, .int .i64, .int .i64, .arr [.int .u8], .arr [.int .i64], .arr [.int .i64], .arr shNd, .arr shWs, .arr [.int .i64]]
def z_Wd (x : Wd) : Prop := okz_LB x.p.mem ∧ okz_LI x.p.st ∧ okz_LI x.p.own ∧ okz_NdS x.l ∧ okz_WsS x.q ∧ okz_LI x.log
theorem sh_Wd {ts : List T} (hh : ShTs ts shWd) : ∃ x : Wd, ts = x.cs ∧ z_Wd x := by
  obtain ⟨t0, ts, rfl, h0, hh⟩ := shs_cons hh
  obtain ⟨t1, ts, rfl, h1, hh⟩ := shs_cons hh
  obtain ⟨t2, ts, rfl, h2, hh⟩ := shs_cons hh
  obtain ⟨t3, ts, rfl, h3, hh⟩ := shs_cons hh
  obtain ⟨t4, ts, rfl, h4, hh⟩ := shs_cons hh
  obtain ⟨t5, ts, rfl, h5, hh⟩ := shs_cons hh
  obtain ⟨t6, ts, rfl, h6, hh⟩ := shs_cons hh
  obtain ⟨t7, ts, rfl, h7, hh⟩ := shs_cons hh
  obtain ⟨t8, ts, rfl, h8, hh⟩ := shs_cons hh
  obtain ⟨t9, ts, rfl, h9, hh⟩ := shs_cons hh
  obtain ⟨t10, ts, rfl, h10, hh⟩ := shs_cons hh
  obtain ⟨t11, ts, rfl, h11, hh⟩ := shs_cons hh
  obtain rfl := shs_nil hh
  obtain ⟨x0, rfl, _⟩ := sh_int h0
  obtain ⟨x1, rfl, _⟩ := sh_int h1
  obtain ⟨x2, rfl, _⟩ := sh_int h2
  obtain ⟨x3, rfl, _⟩ := sh_int h3
  obtain ⟨x4, rfl, _⟩ := sh_int h4
  obtain ⟨x5, rfl, _⟩ := sh_int h5
  obtain ⟨x6, rfl, z6⟩ := sh_LB h6
  obtain ⟨x7, rfl, z7⟩ := sh_LI h7
  obtain ⟨x8, rfl, z8⟩ := sh_LI h8
  obtain ⟨x9, rfl, z9, y9⟩ := sh_NdS h9
  obtain ⟨x10, rfl, z10, y10⟩ := sh_WsS h10
  obtain ⟨x11, rfl, z11⟩ := sh_LI h11
  exact ⟨⟨⟨x0, x1, x2, x3, x4, x5⟩, ⟨x6, x7, x8⟩, x9, x10, x11⟩, rfl, ⟨z6, z7, z8, ⟨z9, y9⟩, ⟨z10, y10⟩, z11⟩⟩
def ok_EqWd (x : Wd × Wd) : Prop := okq_LB x.1.p.mem ∧ okq_LI x.1.p.st ∧ okq_LI x.1.p.own ∧ okq_NdS x.1.l ∧ okq_WsS x.1.q ∧ okq_LI x.1.log
def ea_EqWd (x : Wd × Wd) : List Arg := [aR x.1.cs, aR x.2.cs]
def f_EqWd (x : Wd × Wd) : Bool := decide (x.1 = x.2)
noncomputable def e_EqWd : Ent := ent [] ok_EqWd ea_EqWd (erB 2) f_EqWd
theorem ea_EqWd_inj (x y : Wd × Wd) (h : ea_EqWd x = ea_EqWd y) : x = y := by
  obtain ⟨l1, r1⟩ := x
  obtain ⟨l2, r2⟩ := y
  simp only [ea_EqWd, List.cons.injEq, and_true, true_and] at h
  obtain ⟨e0, e1⟩ := h
  obtain rfl := Wd.cs_ext (aR_inj e0)
  obtain rfl := Wd.cs_ext (aR_inj e1)
  rfl
theorem dm_EqWd {l : Wd} {r : Wd} (h : ok_EqWd (l, r)) : dom ok_EqWd ea_EqWd [(0, true, [C.tr false (T.int IntKind.i64 l.c.chunks), C.tr false (T.int IntKind.i64 l.c.size), C.tr false (T.int IntKind.i64 l.c.slots), C.tr false (T.int IntKind.i64 l.c.tax), C.tr false (T.int IntKind.i64 l.c.slice), C.tr false (T.int IntKind.i64 l.c.gens), C.tr false (T.arr 1 l.p.mem.length (atL rowB l.p.mem)), C.tr false (T.arr 1 l.p.st.length (atL rowI l.p.st)), C.tr false (T.arr 1 l.p.own.length (atL rowI l.p.own)), C.tr false (T.arr 13 l.l.length (atL Nd.cs l.l)), C.tr false (T.arr 5 l.q.length (atL Ws.cs l.q)), C.tr false (T.arr 1 l.log.length (atL rowI l.log))]), (0, true, [C.tr false (T.int IntKind.i64 r.c.chunks), C.tr false (T.int IntKind.i64 r.c.size), C.tr false (T.int IntKind.i64 r.c.slots), C.tr false (T.int IntKind.i64 r.c.tax), C.tr false (T.int IntKind.i64 r.c.slice), C.tr false (T.int IntKind.i64 r.c.gens), C.tr false (T.arr 1 r.p.mem.length (atL rowB r.p.mem)), C.tr false (T.arr 1 r.p.st.length (atL rowI r.p.st)), C.tr false (T.arr 1 r.p.own.length (atL rowI r.p.own)), C.tr false (T.arr 13 r.l.length (atL Nd.cs r.l)), C.tr false (T.arr 5 r.q.length (atL Ws.cs r.q)), C.tr false (T.arr 1 r.log.length (atL rowI r.log))])] = true := dom_ea (ea := ea_EqWd) (x := (l, r)) h
theorem iv_EqWd {l : Wd} {r : Wd} (h : ok_EqWd (l, r)) : inv ok_EqWd ea_EqWd [(0, true, [C.tr false (T.int IntKind.i64 l.c.chunks), C.tr false (T.int IntKind.i64 l.c.size), C.tr false (T.int IntKind.i64 l.c.slots), C.tr false (T.int IntKind.i64 l.c.tax), C.tr false (T.int IntKind.i64 l.c.slice), C.tr false (T.int IntKind.i64 l.c.gens), C.tr false (T.arr 1 l.p.mem.length (atL rowB l.p.mem)), C.tr false (T.arr 1 l.p.st.length (atL rowI l.p.st)), C.tr false (T.arr 1 l.p.own.length (atL rowI l.p.own)), C.tr false (T.arr 13 l.l.length (atL Nd.cs l.l)), C.tr false (T.arr 5 l.q.length (atL Ws.cs l.q)), C.tr false (T.arr 1 l.log.length (atL rowI l.log))]), (0, true, [C.tr false (T.int IntKind.i64 r.c.chunks), C.tr false (T.int IntKind.i64 r.c.size), C.tr false (T.int IntKind.i64 r.c.slots), C.tr false (T.int IntKind.i64 r.c.tax), C.tr false (T.int IntKind.i64 r.c.slice), C.tr false (T.int IntKind.i64 r.c.gens), C.tr false (T.arr 1 r.p.mem.length (atL rowB r.p.mem)), C.tr false (T.arr 1 r.p.st.length (atL rowI r.p.st)), C.tr false (T.arr 1 r.p.own.length (atL rowI r.p.own)), C.tr false (T.arr 13 r.l.length (atL Nd.cs r.l)), C.tr false (T.arr 5 r.q.length (atL Ws.cs r.q)), C.tr false (T.arr 1 r.log.length (atL rowI r.log))])] = (l, r) := inv_ea ea_EqWd_inj (x := (l, r)) h
theorem d_EqWd (l : Wd) (r : Wd) : f_EqWd (l, r) = decide (l = r) := rfl
def i_EqWd : Nat := 25
noncomputable abbrev F_EqWd : Func := f25
def kp_EqWd : List (Nat × List Nat) := [(0, [8, 9, 12, 13]), (1, [8, 9, 12, 13, 40]), (2, [16]), (3, [8, 9, 12, 13, 64]), (4, [16]), (5, [8, 9, 12, 13, 88]), (6, [16]), (7, [8, 9, 12, 13, 112]), (8, [16]), (9, [136]), (10, [16]), (11, [16])]
theorem pre_EqWd (l : Wd) (r : Wd) (n : Nat) : body prog (tabS [(i_eqCf, e_eqCf), (i_eqPl, e_eqPl), (i_eqNdS, e_eqNdS), (i_eqWsS, e_eqWsS), (i_eqLI, e_eqLI)]) kp_EqWd n F_EqWd [aR l.cs, aR r.cs] = (
 bif l.c.1 != r.c.1 then
  some ([(false, [.tr true (T.bool false)])], [(false, []), (false, [])])
 else
 bif l.c.2 != r.c.2 then
  some ([(false, [.tr true (T.bool false)])], [(false, []), (false, [])])
 else
 bif l.c.3 != r.c.3 then
  some ([(false, [.tr true (T.bool false)])], [(false, []), (false, [])])
 else
 bif l.c.4 != r.c.4 then
  some ([(false, [.tr true (T.bool false)])], [(false, []), (false, [])])
 else
 bif l.c.5 != r.c.5 then
  some ([(false, [.tr true (T.bool false)])], [(false, []), (false, [])])
 else
 bif l.c.6 != r.c.6 then
  some ([(false, [.tr true (T.bool false)])], [(false, []), (false, [])])
 else
 gd (dom ok2_LB ea2_LB [(0, false, [C.tr false (eL 1 rowB l.p.1)]), (0, false, [C.tr false (eL 1 rowB r.p.1)])]) <|
 bif !f_eqLB (inv ok2_LB ea2_LB [(0, false, [C.tr false (eL 1 rowB l.p.1)]), (0, false, [C.tr false (eL 1 rowB r.p.1)])]) then
  some ([(false, [.tr true (T.bool false)])], [(false, []), (false, [])])
 else
 gd (dom ok2_LI ea2_LI [(0, false, [C.tr false (eL 1 rowI l.p.2)]), (0, false, [C.tr false (eL 1 rowI r.p.2)])]) <|
 bif !f_eqLI (inv ok2_LI ea2_LI [(0, false, [C.tr false (eL 1 rowI l.p.2)]), (0, false, [C.tr false (eL 1 rowI r.p.2)])]) then
  some ([(false, [.tr true (T.bool false)])], [(false, []), (false, [])])
 else
 gd (dom ok2_LI ea2_LI [(0, false, [C.tr false (eL 1 rowI l.p.3)]), (0, false, [C.tr false (eL 1 rowI r.p.3)])]) <|
 bif !f_eqLI (inv ok2_LI ea2_LI [(0, false, [C.tr false (eL 1 rowI l.p.3)]), (0, false, [C.tr false (eL 1 rowI r.p.3)])]) then
  some ([(false, [.tr true (T.bool false)])], [(false, []), (false, [])])
 else
 gd (dom ok2_NdS ea2_NdS [(0, false, [C.tr false (eL 13 Nd.cs l.3)]), (0, false, [C.tr false (eL 13 Nd.cs r.3)])]) <|
 bif !f_eqNdS
    (inv ok2_NdS ea2_NdS [(0, false, [C.tr false (eL 13 Nd.cs l.3)]), (0, false, [C.tr false (eL 13 Nd.cs r.3)])]) then
  some ([(false, [.tr true (T.bool false)])], [(false, []), (false, [])])
 else
 gd (dom ok2_WsS ea2_WsS [(0, false, [C.tr false (eL 5 Ws.cs l.4)]), (0, false, [C.tr false (eL 5 Ws.cs r.4)])]) <|
 bif !f_eqWsS (inv ok2_WsS ea2_WsS [(0, false, [C.tr false (eL 5 Ws.cs l.4)]), (0, false, [C.tr false (eL 5 Ws.cs r.4)])]) then
  some ([(false, [.tr true (T.bool false)])], [(false, []), (false, [])])
 else
 gd (dom ok2_LI ea2_LI [(0, false, [C.tr false (eL 1 rowI l.5)]), (0, false, [C.tr false (eL 1 rowI r.5)])]) <|
 bif !f_eqLI (inv ok2_LI ea2_LI [(0, false, [C.tr false (eL 1 rowI l.5)]), (0, false, [C.tr false (eL 1 rowI r.5)])]) then
  some ([(false, [.tr true (T.bool false)])], [(false, []), (false, [])])
 else
 some ([(false, [.tr true (T.bool true)])], [(false, []), (false, [])])) := by kernel_rfl
theorem body_EqWd (l : Wd) (r : Wd) (n : Nat) (h : ok_EqWd (l, r)) : body prog (tabS [(i_eqCf, e_eqCf), (i_eqPl, e_eqPl), (i_eqNdS, e_eqNdS), (i_eqWsS, e_eqWsS), (i_eqLI, e_eqLI)]) kp_EqWd n F_EqWd (ea_EqWd (l, r)) = some (erB 2 (f_EqWd (l, r))) := by
  have h0 : okq_LB l.p.mem := h.1
  have h1 : okq_LI l.p.st := h.2.1
  have h2 : okq_LI l.p.own := h.2.2.1
  have h3 : okq_NdS l.l := h.2.2.2.1
  have h4 : okq_WsS l.q := h.2.2.2.2.1
  have h5 : okq_LI l.log := h.2.2.2.2.2
  unfold ea_EqWd f_EqWd
  try dsimp only
  rw [pre_EqWd]
  simp only [lt_d, ge0_d, Int.toNat_natCast, blt_d, ble_self, beq_self, decide_true, cond_true, Bool.and_self, Bool.and_true, Bool.true_and, gd_true, Nat.zero_add, List.getD_cons_zero, List.getD_cons_succ, isI_int, toI_int, isB_bool, toB_bool, eL_T, arr_ln, arr_fn, arr_wd, arr_is, arr_get, Wd.cs, int_ne, bool_ne, bool_eq, dm_eqLB h0, iv_eqLB h0, d_eqLB, dm_eqLI h1, iv_eqLI h1, d_eqLI, dm_eqLI h2, iv_eqLI h2, d_eqLI, dm_eqNdS h3, iv_eqNdS h3, d_eqNdS, dm_eqWsS h4, iv_eqWsS h4, d_eqWsS, dm_eqLI h5, iv_eqLI h5, d_eqLI, chain]
  have hxy : (l.c.chunks = r.c.chunks ∧ l.c.size = r.c.size ∧ l.c.slots = r.c.slots ∧ l.c.tax = r.c.tax ∧ l.c.slice = r.c.slice ∧ l.c.gens = r.c.gens ∧ l.p.mem = r.p.mem ∧ l.p.st = r.p.st ∧ l.p.own = r.p.own ∧ l.l = r.l ∧ l.q = r.q ∧ l.log = r.log) ↔ l = r := by
    rcases l with ⟨⟨x0, x1, x2, x3, x4, x5⟩, ⟨x6, x7, x8⟩, x9, x10, x11⟩
    rcases r with ⟨⟨y0, y1, y2, y3, y4, y5⟩, ⟨y6, y7, y8⟩, y9, y10, y11⟩
    simp [and_assoc]
  simp only [hxy]
  by_cases e : l = r
  · simp only [e, decide_true, Bool.not_true, cond_false]
    rfl
  · simp only [e, decide_false, Bool.not_false, cond_true]
    rfl
theorem s_EqWd : EntOk prog i_EqWd e_EqWd := ent_ok ea_EqWd_inj fun x hx =>
  body_sound (φ := (tabS [(i_eqCf, e_eqCf), (i_eqPl, e_eqPl), (i_eqNdS, e_eqNdS), (i_eqWsS, e_eqWsS), (i_eqLI, e_eqLI)])) (tabS_cons s_eqCf (tabS_cons s_eqPl (tabS_cons s_eqNdS (tabS_cons s_eqWsS (tabS_cons s_eqLI tabS_nil))))) mixed (kp := kp_EqWd) (n := 0) func25 (c := bodyOf F_EqWd) (by kernel_rfl) (body_EqWd x.1 x.2 (0) hx) (name_ok (by kernel_rfl))
theorem okn_ThS {l : List Th} (h : (n_ThS l : Int) ≤ 1048576) : ok_ThS l ∧ okq_ThS l := by
  have := lm
  have := bm
  unfold n_ThS at h
  exact ⟨⟨by omega, fun _ _ => trivial⟩, ⟨by omega, fun _ _ => trivial⟩⟩
theorem okn_NdS {l : List Nd} (h : (n_NdS l : Int) ≤ 1048576) : ok_NdS l ∧ okq_NdS l := by
  have := lm
  have := bm
  have e : n_NdS l = l.length + cntL n1_NdS l := rfl
  exact ⟨⟨by omega, fun x hx => ⟨(okn_LI (l := x.chunks) (by have := cntL_mem n1_NdS hx; have : n1_NdS x = n_LI x.chunks + n_ThS x.things + n_LI x.tags := rfl; omega)).1, (okn_ThS (l := x.things) (by have := cntL_mem n1_NdS hx; have : n1_NdS x = n_LI x.chunks + n_ThS x.things + n_LI x.tags := rfl; omega)).1, (okn_LI (l := x.tags) (by have := cntL_mem n1_NdS hx; have : n1_NdS x = n_LI x.chunks + n_ThS x.things + n_LI x.tags := rfl; omega)).1⟩⟩, ⟨by omega, fun x hx => ⟨(okn_LI (l := x.chunks) (by have := cntL_mem n1_NdS hx; have : n1_NdS x = n_LI x.chunks + n_ThS x.things + n_LI x.tags := rfl; omega)).2, (okn_ThS (l := x.things) (by have := cntL_mem n1_NdS hx; have : n1_NdS x = n_LI x.chunks + n_ThS x.things + n_LI x.tags := rfl; omega)).2, (okn_LI (l := x.tags) (by have := cntL_mem n1_NdS hx; have : n1_NdS x = n_LI x.chunks + n_ThS x.things + n_LI x.tags := rfl; omega)).2⟩⟩⟩
theorem okn_WsS {l : List Ws} (h : (n_WsS l : Int) ≤ 1048576) : ok_WsS l ∧ okq_WsS l := by
  have := lm
  have := bm
  have e : n_WsS l = l.length + cntL n1_WsS l := rfl
  exact ⟨⟨by omega, fun x hx => ⟨(okn_LI (l := x.tags) (by have := cntL_mem n1_WsS hx; have : n1_WsS x = n_LI x.tags + n_LI x.chunks := rfl; omega)).1, (okn_LI (l := x.chunks) (by have := cntL_mem n1_WsS hx; have : n1_WsS x = n_LI x.tags + n_LI x.chunks := rfl; omega)).1⟩⟩, ⟨by omega, fun x hx => ⟨(okn_LI (l := x.tags) (by have := cntL_mem n1_WsS hx; have : n1_WsS x = n_LI x.tags + n_LI x.chunks := rfl; omega)).2, (okn_LI (l := x.chunks) (by have := cntL_mem n1_WsS hx; have : n1_WsS x = n_LI x.tags + n_LI x.chunks := rfl; omega)).2⟩⟩⟩
end Go.Mach.F
namespace Go.Mach.F
open Go Go.Mach Go.Proofs.Try
--=set_option maxRecDepth 100000
def riseN (l : List Nd) : Nat → Int → List Int
  | 0, _ => []
  | n + 1, k => match l[k.toNat]? with
    | some x => bif decide (0 ≤ k) then k :: riseN l n (IntKind.i64.wrap (x.up - 1)) else []
    | none => []
def inI (k : Int) : Prop := -9223372036854775808 ≤ k ∧ k ≤ 9223372036854775807
theorem inI_wrap (k : Int) : inI (IntKind.i64.wrap k) := by
  rw [IntKind.wrap_i64]
  unfold inI
  omega
theorem riseN_out {l : List Nd} {k : Int} (h : ¬ (0 ≤ k ∧ k < l.length)) (n : Nat) : riseN l n k = [] := by
  cases n with
  | zero => rfl
  | succ n =>
    unfold riseN
    by_cases h0 : 0 ≤ k
    · rw [List.getElem?_eq_none (by omega)]
    · cases l[k.toNat]? with
      | none => rfl
      | some x => simp only [decide_eq_false h0, cond_false]
theorem row1 (x : Int) (j k' : Nat) : (Option.rec (motive := fun _ => T) T.hole (fun val => val) ([[T.int IntKind.i64 x]].getD j [])[k']? : T) = rowsT [[T.int IntKind.i64 x]] j k' := by
  unfold rowsT
  generalize [[T.int IntKind.i64 x]].getD j [] = q
  rw [List.getD_eq_getElem?_getD]
  cases q[k']? <;> rfl
theorem app1 (out : List Int) (x : Int) : appF out.length (atL rowI out) (plainF (cutT 0 1 (rowsT [[T.int .i64 x]]))) = atL rowI (out ++ [x]) := by
  funext j k
  unfold appF
  rw [blt_d, Bool.cond_decide]
  by_cases h : j < out.length
  · rw [if_pos h]
    unfold atL
    rw [List.getElem?_append_left h]
  · rw [if_neg h]
    unfold atL
    rw [List.getElem?_append_right (by omega)]
    obtain ⟨d, hd⟩ : ∃ d, d = j - out.length := ⟨_, rfl⟩
    rw [← hd]
    cases d with
    | zero => cases k <;> rfl
    | succ d =>
      cases d <;> rfl
def i_within : Nat := 141
noncomputable abbrev F_within : Func := f141
def kp_within : List (Nat × List Nat) := [(0, [0, 4, 8, 44, 48, 52]), (1, [24])]
noncomputable def e_within : Ent := inl [] prog (tabS []) kp_within 0 F_within
theorem s_within : EntOk prog i_within e_within := inl_ok tabS_nil mixed (c := bodyOf F_within) func141 (by kernel_rfl) (name_ok (by kernel_rfl))
def i_isSlot : Nat := 80
noncomputable abbrev F_isSlot : Func := f80
def kp_isSlot : List (Nat × List Nat) := [(0, [0, 4]), (1, [16])]
noncomputable def e_isSlot : Ent := inl [] prog (tabS [(i_within, e_within)]) kp_isSlot 0 F_isSlot
theorem s_isSlot : EntOk prog i_isSlot e_isSlot := inl_ok (tabS_cons s_within tabS_nil) mixed (c := bodyOf F_isSlot) func80 (by kernel_rfl) (name_ok (by kernel_rfl))
def i_l9Place : Nat := 135
noncomputable abbrev F_l9Place : Func := f135
def kp_l9Place : List (Nat × List Nat) := [(0, [0, 4, 32, 36, 40, 44]), (1, [16])]
noncomputable def e_l9Place : Ent := inl [] prog (tabS []) kp_l9Place 0 F_l9Place
theorem s_l9Place : EntOk prog i_l9Place e_l9Place := inl_ok tabS_nil mixed (c := bodyOf F_l9Place) func135 (by kernel_rfl) (name_ok (by kernel_rfl))
def ok_iRise (x : List Nd × Int) : Prop := x.1.length ≤ LM ∧ inI x.2
def ea_iRise (x : List Nd × Int) : List Arg := [aT (eL 13 Nd.cs x.1), aI x.2]
def f_iRise (x : List Nd × Int) : List Int := riseN x.1 x.1.length x.2
noncomputable def e_iRise : Ent := ent [] ok_iRise ea_iRise (fun r => erT 2 (eI r)) f_iRise
theorem ea_iRise_inj (x y : List Nd × Int) (h : ea_iRise x = ea_iRise y) : x = y := by
  obtain ⟨l1, k1⟩ := x
  obtain ⟨l2, k2⟩ := y
  simp only [ea_iRise, List.cons.injEq, and_true, true_and] at h
  obtain ⟨e0, e1⟩ := h
  obtain rfl := eL_inj Nd.cs_inj (aT_inj e0)
  obtain rfl := aI_inj e1
  rfl
theorem dm_iRise {l : List Nd} {k : Int} (h : ok_iRise (l, k)) : dom ok_iRise ea_iRise [(0, false, [C.tr false (T.arr 13 l.length (atL Nd.cs l))]), (0, false, [C.tr false (T.int IntKind.i64 k)])] = true := dom_ea (ea := ea_iRise) (x := (l, k)) h
theorem iv_iRise {l : List Nd} {k : Int} (h : ok_iRise (l, k)) : inv ok_iRise ea_iRise [(0, false, [C.tr false (T.arr 13 l.length (atL Nd.cs l))]), (0, false, [C.tr false (T.int IntKind.i64 k)])] = (l, k) := inv_ea ea_iRise_inj (x := (l, k)) h
theorem d_iRise (l : List Nd) (k : Int) : f_iRise (l, k) = riseN l l.length k := rfl
def i_iRise : Nat := 177
noncomputable abbrev F_iRise : Func := f177
def kp_iRise : List (Nat × List Nat) := [(0, [0, 4]), (1, [0, 4, 20]), (2, [0, 4, 20, 64]), (3, [0, 4, 20]), (4, [0, 4, 20]), (5, [16])]
def ts_iRise : List Nat := [0, 0]
def st_iRise_1 (l : List Nd) (k : Int) (x4 : Int) (nx20 : Nat) (fx20 : Nat → Nat → T) : St := [(0, ⟨z0, [(false, [.tr false (eL 13 Nd.cs l)])]⟩), (4, ⟨z0, [(false, [.tr true (T.int IntKind.i64 x4)])]⟩), (20, ⟨z0, [(false, [.tr true (.arr (1) (nx20) (fx20))])]⟩)]
def ex_iRise_1_1 (l : List Nd) (k : Int) (x4 : Int) (nx20 : Nat) (fx20 : Nat → Nat → T) : St := [(0, ⟨z0, [(false, [.tr false (eL 13 Nd.cs l)])]⟩), (4, ⟨z0, [(false, [.tr true (T.int IntKind.i64 x4)])]⟩), (20, ⟨z0, [(false, [.tr true (.arr (1) (nx20) (fx20))])]⟩), (64, ⟨z0, []⟩)]
theorem round_iRise_1 (l : List Nd) (k : Int) (x4 : Int) (nx20 : Nat) (fx20 : Nat → Nat → T) (n : Nat) (K : Ex → St → Res) : roundAt prog (tabS [(i_isSlot, e_isSlot)]) kp_iRise F_iRise [1, 1, 0, 0] n (st_iRise_1 l k x4 nx20 fx20) K = (
 bif decide (0 ≤ x4) then
  bif decide (x4 ≤ IntKind.i64.wrap ((↑l.length : Int) - 1)) then
   bif decide ((↑nx20 : Int) < (↑l.length : Int)) then
    gd (nx20.ble nx20 && true) <|
    gd (((nx20 + 1) * 8).ble 70368744177664 && (nx20 + 1).ble 70368744177664) <|
    gd ((nx20 + 1).ble (nx20 + 1) && true) <|
    gd (decide (0 ≤ x4) && (x4.toNat.blt l.length && true)) <|
    gd (T.isI IntKind.i64 (atL Nd.cs l x4.toNat 3)) <|
    K .normal (st_iRise_1 l k (IntKind.i64.wrap ((atL Nd.cs l x4.toNat 3).toI - 1)) (nx20 + 1) (appF nx20 fx20
  (plainF
    (cutT 0 1 fun j k =>
      Option.rec ((fun _ => T.hole) ()) (fun val => (fun val => (fun x => x) val) val)
        ([[T.int IntKind.i64 x4]].getD j [])[k]?))))
   else
   K (.exit 0) (ex_iRise_1_1 l k x4 nx20 fx20)
  else
  K (.exit 0) (ex_iRise_1_1 l k x4 nx20 fx20)
 else
 K (.exit 0) (ex_iRise_1_1 l k x4 nx20 fx20)) := by kernel_rfl
theorem post_iRise_1_1 (l : List Nd) (k : Int) (x4 : Int) (nx20 : Nat) (fx20 : Nat → Nat → T) (n : Nat) : contAt prog (tabS [(i_isSlot, e_isSlot)]) kp_iRise F_iRise ts_iRise [1, 1, 0, 0] [] n (.exit 0) (ex_iRise_1_1 l k x4 nx20 fx20) = (
 gd (nx20.ble nx20 && true) <|
 gd (nx20.ble nx20 && true) <|
 some ([(false, [.tr true (.arr (1) (nx20) (fx20))])], [(false, []), (false, [])])) := by kernel_rfl
theorem pre_iRise (l : List Nd) (k : Int) (n : Nat) : body prog (tabS [(i_isSlot, e_isSlot)]) kp_iRise n F_iRise [aT (eL 13 Nd.cs l), aI k] = (
 loopAt prog (tabS [(i_isSlot, e_isSlot)]) kp_iRise F_iRise [1, 1, 0, 0] n n (st_iRise_1 l k (k) (0) (fun j k => T.hole)) (contAt prog (tabS [(i_isSlot, e_isSlot)]) kp_iRise F_iRise ts_iRise [1, 1, 0, 0] [] n)) := by kernel_rfl
theorem loop_iRise (l : List Nd) (k0 : Int) (hl : l.length ≤ LM) (n mm : Nat) : ∀ (r : Nat) (k : Int) (out : List Int), inI k → out.length + r = l.length →
    loopAt prog (tabS [(i_isSlot, e_isSlot)]) kp_iRise F_iRise [1, 1, 0, 0] n (r + 1 + mm) (st_iRise_1 l k0 k out.length (atL rowI out)) (contAt prog (tabS [(i_isSlot, e_isSlot)]) kp_iRise F_iRise ts_iRise [1, 1, 0, 0] [] n) = some (erT 2 (eI (out ++ riseN l r k))) := by
  have hlm := lm
  have fin : ∀ (k : Int) (out : List Int), contAt prog (tabS [(i_isSlot, e_isSlot)]) kp_iRise F_iRise ts_iRise [1, 1, 0, 0] [] n (.exit 0) (ex_iRise_1_1 l k0 k out.length (atL rowI out)) = some (erT 2 (eI (out ++ []))) := fun k out => by
    rw [post_iRise_1_1, List.append_nil]
    simp only [ble_d, Nat.le_refl, decide_true, Bool.and_true, gd_true]
    rfl
  intro r
  induction r with
  | zero =>
    intro k out hk hr
    have e1 : 0 + 1 + mm = mm + 1 := by omega
    rw [e1, loopAt_succ, round_iRise_1]
    simp only [lt_d, decide_eq_false (show ¬ out.length < l.length by omega), cond_false, Bool.cond_self]
    exact fin k out
  | succ r ih =>
    intro k out hk hr
    have e1 : r + 1 + 1 + mm = (r + 1 + mm) + 1 := by omega
    unfold inI at hk
    rw [e1, loopAt_succ, round_iRise_1]
    by_cases h : 0 ≤ k ∧ k < l.length
    · have hx := List.getElem?_eq_getElem (show k.toNat < l.length by omega)
      obtain ⟨x, hxe⟩ : ∃ x, x = l[k.toNat]'(by omega) := ⟨_, rfl⟩
      rw [← hxe] at hx
      have c1 : 0 ≤ k := by exact h.1
      have c2 : k ≤ IntKind.i64.wrap ((l.length : Int) - 1) := by rw [IntKind.wrap_i64]; omega
      have e3 : riseN l (r + 1) k = k :: riseN l r (IntKind.i64.wrap (x.up - 1)) := by simp only [riseN, hx, decide_eq_true h.1, cond_true]
      have hb : k.toNat < l.length := by omega
      have hs : (out.length + 1) * 8 ≤ 70368744177664 := by omega
      have hs2 : out.length + 1 ≤ 70368744177664 := by omega
      have ho : out.length < l.length := by omega
      have h00 := h.1
      simp only [lt_d, ge0_d, Int.toNat_natCast, blt_d, ble_self, beq_self, decide_true, cond_true, Bool.and_self, Bool.and_true, Bool.true_and, gd_true, Nat.zero_add, List.getD_cons_zero, List.getD_cons_succ, isI_int, toI_int, isB_bool, toB_bool, eL_T, arr_ln, arr_fn, arr_wd, arr_is, arr_get, ble_d, decide_eq_true c1, decide_eq_true c2, decide_eq_true h00, decide_eq_true hb, decide_eq_true ho, decide_eq_true hs, decide_eq_true hs2, Nat.le_refl, atL_of hx, Nd.cs]
      rw [e3]
      have := ih (IntKind.i64.wrap (x.up - 1)) (out ++ [k]) (inI_wrap _) (by simp; omega)
      rw [List.append_assoc] at this
      refine Eq.trans (congrArg (fun s => loopAt prog (tabS [(i_isSlot, e_isSlot)]) kp_iRise F_iRise [1, 1, 0, 0] n (r + 1 + mm) s _) ?_) this
      have ha := app1 out k
      have hrow : ∀ j k', (Option.rec (motive := fun _ => T) T.hole (fun val => val) ([[T.int IntKind.i64 k]].getD j [])[k']? : T) = rowsT [[T.int IntKind.i64 k]] j k' := fun j k' => by
        unfold rowsT
        generalize [[T.int IntKind.i64 k]].getD j [] = q
        rw [List.getD_eq_getElem?_getD]
        cases q[k']? <;> rfl
      rw [← ha, List.length_append]
      simp only [hrow]
      rfl
    · rw [riseN_out h]
      by_cases c1 : 0 ≤ k
      · have c2 : ¬ k ≤ IntKind.i64.wrap ((l.length : Int) - 1) := by rw [IntKind.wrap_i64]; omega
        simp only [decide_eq_true c1, decide_eq_false c2, cond_true, cond_false]
        exact fin k out
      · simp only [decide_eq_false c1, cond_false]
        exact fin k out
theorem body_iRise (l : List Nd) (k : Int) (h : ok_iRise (l, k)) : body prog (tabS [(i_isSlot, e_isSlot)]) kp_iRise (l.length + 1) F_iRise (ea_iRise (l, k)) = some (erT 2 (eI (f_iRise (l, k)))) := by
  unfold ea_iRise f_iRise
  dsimp only
  rw [pre_iRise]
  have := loop_iRise l k h.1 (l.length + 1) 0 l.length k [] h.2 (by simp)
  rw [List.nil_append] at this
  exact this
theorem s_iRise : EntOk prog i_iRise e_iRise := ent_ok ea_iRise_inj fun x hx =>
  body_sound (φ := (tabS [(i_isSlot, e_isSlot)])) (tabS_cons s_isSlot tabS_nil) mixed (kp := kp_iRise) (n := x.1.length + 1) func177 (c := bodyOf F_iRise) (by kernel_rfl) (body_iRise x.1 x.2 hx) (name_ok (by kernel_rfl))
def ok_sRise (x : List Nd × Int) : Prop := x.1.length ≤ LM ∧ inI x.2
def ea_sRise (x : List Nd × Int) : List Arg := [aT (eL 13 Nd.cs x.1), aI x.2]
def f_sRise (x : List Nd × Int) : List Int := riseN x.1 x.1.length x.2
noncomputable def e_sRise : Ent := ent [] ok_sRise ea_sRise (fun r => erT 2 (eI r)) f_sRise
theorem ea_sRise_inj (x y : List Nd × Int) (h : ea_sRise x = ea_sRise y) : x = y := by
  obtain ⟨l1, k1⟩ := x
  obtain ⟨l2, k2⟩ := y
  simp only [ea_sRise, List.cons.injEq, and_true, true_and] at h
  obtain ⟨e0, e1⟩ := h
  obtain rfl := eL_inj Nd.cs_inj (aT_inj e0)
  obtain rfl := aI_inj e1
  rfl
theorem dm_sRise {l : List Nd} {k : Int} (h : ok_sRise (l, k)) : dom ok_sRise ea_sRise [(0, false, [C.tr false (T.arr 13 l.length (atL Nd.cs l))]), (0, false, [C.tr false (T.int IntKind.i64 k)])] = true := dom_ea (ea := ea_sRise) (x := (l, k)) h
theorem iv_sRise {l : List Nd} {k : Int} (h : ok_sRise (l, k)) : inv ok_sRise ea_sRise [(0, false, [C.tr false (T.arr 13 l.length (atL Nd.cs l))]), (0, false, [C.tr false (T.int IntKind.i64 k)])] = (l, k) := inv_ea ea_sRise_inj (x := (l, k)) h
theorem d_sRise (l : List Nd) (k : Int) : f_sRise (l, k) = riseN l l.length k := rfl
def i_sRise : Nat := 175
noncomputable abbrev F_sRise : Func := f175
def kp_sRise : List (Nat × List Nat) := [(0, [0, 4]), (1, [0, 4, 20]), (2, [0, 4, 20, 68]), (3, [0, 4, 20]), (4, [0, 4, 20]), (5, [16])]
def ts_sRise : List Nat := [0, 0]
def st_sRise_1 (l : List Nd) (k : Int) (x4 : Int) (nx20 : Nat) (fx20 : Nat → Nat → T) : St := [(0, ⟨z0, [(false, [.tr false (eL 13 Nd.cs l)])]⟩), (4, ⟨z0, [(false, [.tr true (T.int IntKind.i64 x4)])]⟩), (20, ⟨z0, [(false, [.tr true (.arr (1) (nx20) (fx20))])]⟩)]
def ex_sRise_1_1 (l : List Nd) (k : Int) (x4 : Int) (nx20 : Nat) (fx20 : Nat → Nat → T) : St := [(0, ⟨z0, [(false, [.tr false (eL 13 Nd.cs l)])]⟩), (4, ⟨z0, [(false, [.tr true (T.int IntKind.i64 x4)])]⟩), (20, ⟨z0, [(false, [.tr true (.arr (1) (nx20) (fx20))])]⟩), (68, ⟨z0, []⟩)]
theorem round_sRise_1 (l : List Nd) (k : Int) (x4 : Int) (nx20 : Nat) (fx20 : Nat → Nat → T) (n : Nat) (K : Ex → St → Res) : roundAt prog (tabS [(i_l9Place, e_l9Place)]) kp_sRise F_sRise [1, 1, 0, 0] n (st_sRise_1 l k x4 nx20 fx20) K = (
 bif decide (1 ≤ IntKind.i64.wrap (x4 + 1)) then
  bif decide (IntKind.i64.wrap (x4 + 1) ≤ (↑l.length : Int)) then
   bif decide ((↑nx20 : Int) < (↑l.length : Int)) then
    gd (nx20.ble nx20 && true) <|
    gd (((nx20 + 1) * 8).ble 70368744177664 && (nx20 + 1).ble 70368744177664) <|
    gd ((nx20 + 1).ble (nx20 + 1) && true) <|
    gd (decide (0 ≤ x4) && (x4.toNat.blt l.length && true)) <|
    gd (T.isI IntKind.i64 (atL Nd.cs l x4.toNat 3)) <|
    K .normal (st_sRise_1 l k (IntKind.i64.wrap ((atL Nd.cs l x4.toNat 3).toI - 1)) (nx20 + 1) (appF nx20 fx20
  (plainF
    (cutT 0 1 fun j k =>
      Option.rec ((fun _ => T.hole) ()) (fun val => (fun val => (fun x => x) val) val)
        ([[T.int IntKind.i64 x4]].getD j [])[k]?))))
   else
   K (.exit 0) (ex_sRise_1_1 l k x4 nx20 fx20)
  else
  K (.exit 0) (ex_sRise_1_1 l k x4 nx20 fx20)
 else
 K (.exit 0) (ex_sRise_1_1 l k x4 nx20 fx20)) := by kernel_rfl
theorem post_sRise_1_1 (l : List Nd) (k : Int) (x4 : Int) (nx20 : Nat) (fx20 : Nat → Nat → T) (n : Nat) : contAt prog (tabS [(i_l9Place, e_l9Place)]) kp_sRise F_sRise ts_sRise [1, 1, 0, 0] [] n (.exit 0) (ex_sRise_1_1 l k x4 nx20 fx20) = (
 gd (nx20.ble nx20 && true) <|
 gd (nx20.ble nx20 && true) <|
 some ([(false, [.tr true (.arr (1) (nx20) (fx20))])], [(false, []), (false, [])])) := by kernel_rfl
theorem pre_sRise (l : List Nd) (k : Int) (n : Nat) : body prog (tabS [(i_l9Place, e_l9Place)]) kp_sRise n F_sRise [aT (eL 13 Nd.cs l), aI k] = (
 loopAt prog (tabS [(i_l9Place, e_l9Place)]) kp_sRise F_sRise [1, 1, 0, 0] n n (st_sRise_1 l k (k) (0) (fun j k => T.hole)) (contAt prog (tabS [(i_l9Place, e_l9Place)]) kp_sRise F_sRise ts_sRise [1, 1, 0, 0] [] n)) := by kernel_rfl
theorem loop_sRise (l : List Nd) (k0 : Int) (hl : l.length ≤ LM) (n mm : Nat) : ∀ (r : Nat) (k : Int) (out : List Int), inI k → out.length + r = l.length →
    loopAt prog (tabS [(i_l9Place, e_l9Place)]) kp_sRise F_sRise [1, 1, 0, 0] n (r + 1 + mm) (st_sRise_1 l k0 k out.length (atL rowI out)) (contAt prog (tabS [(i_l9Place, e_l9Place)]) kp_sRise F_sRise ts_sRise [1, 1, 0, 0] [] n) = some (erT 2 (eI (out ++ riseN l r k))) := by
  have hlm := lm
  have fin : ∀ (k : Int) (out : List Int), contAt prog (tabS [(i_l9Place, e_l9Place)]) kp_sRise F_sRise ts_sRise [1, 1, 0, 0] [] n (.exit 0) (ex_sRise_1_1 l k0 k out.length (atL rowI out)) = some (erT 2 (eI (out ++ []))) := fun k out => by
    rw [post_sRise_1_1, List.append_nil]
    simp only [ble_d, Nat.le_refl, decide_true, Bool.and_true, gd_true]
    rfl
  intro r
  induction r with
  | zero =>
    intro k out hk hr
    have e1 : 0 + 1 + mm = mm + 1 := by omega
    rw [e1, loopAt_succ, round_sRise_1]
    simp only [lt_d, decide_eq_false (show ¬ out.length < l.length by omega), cond_false, Bool.cond_self]
    exact fin k out
  | succ r ih =>
    intro k out hk hr
    have e1 : r + 1 + 1 + mm = (r + 1 + mm) + 1 := by omega
    unfold inI at hk
    rw [e1, loopAt_succ, round_sRise_1]
    by_cases h : 0 ≤ k ∧ k < l.length
    · have hx := List.getElem?_eq_getElem (show k.toNat < l.length by omega)
      obtain ⟨x, hxe⟩ : ∃ x, x = l[k.toNat]'(by omega) := ⟨_, rfl⟩
      rw [← hxe] at hx
      have c1 : 1 ≤ IntKind.i64.wrap (k + 1) := by rw [IntKind.wrap_i64]; omega
      have c2 : IntKind.i64.wrap (k + 1) ≤ (l.length : Int) := by rw [IntKind.wrap_i64]; omega
      have e3 : riseN l (r + 1) k = k :: riseN l r (IntKind.i64.wrap (x.up - 1)) := by simp only [riseN, hx, decide_eq_true h.1, cond_true]
      have hb : k.toNat < l.length := by omega
      have hs : (out.length + 1) * 8 ≤ 70368744177664 := by omega
      have hs2 : out.length + 1 ≤ 70368744177664 := by omega
      have ho : out.length < l.length := by omega
      have h00 := h.1
      simp only [lt_d, ge0_d, Int.toNat_natCast, blt_d, ble_self, beq_self, decide_true, cond_true, Bool.and_self, Bool.and_true, Bool.true_and, gd_true, Nat.zero_add, List.getD_cons_zero, List.getD_cons_succ, isI_int, toI_int, isB_bool, toB_bool, eL_T, arr_ln, arr_fn, arr_wd, arr_is, arr_get, ble_d, decide_eq_true c1, decide_eq_true c2, decide_eq_true h00, decide_eq_true hb, decide_eq_true ho, decide_eq_true hs, decide_eq_true hs2, Nat.le_refl, atL_of hx, Nd.cs]
      rw [e3]
      have := ih (IntKind.i64.wrap (x.up - 1)) (out ++ [k]) (inI_wrap _) (by simp; omega)
      rw [List.append_assoc] at this
      refine Eq.trans (congrArg (fun s => loopAt prog (tabS [(i_l9Place, e_l9Place)]) kp_sRise F_sRise [1, 1, 0, 0] n (r + 1 + mm) s _) ?_) this
      have ha := app1 out k
      have hrow : ∀ j k', (Option.rec (motive := fun _ => T) T.hole (fun val => val) ([[T.int IntKind.i64 k]].getD j [])[k']? : T) = rowsT [[T.int IntKind.i64 k]] j k' := fun j k' => by
        unfold rowsT
        generalize [[T.int IntKind.i64 k]].getD j [] = q
        rw [List.getD_eq_getElem?_getD]
        cases q[k']? <;> rfl
      rw [← ha, List.length_append]
      simp only [hrow]
      rfl
    · rw [riseN_out h]
      by_cases c1 : 1 ≤ IntKind.i64.wrap (k + 1)
      · have c2 : ¬ IntKind.i64.wrap (k + 1) ≤ (l.length : Int) := by rw [IntKind.wrap_i64] at c1 ⊢; omega
        simp only [decide_eq_true c1, decide_eq_false c2, cond_true, cond_false]
        exact fin k out
      · simp only [decide_eq_false c1, cond_false]
        exact fin k out
theorem body_sRise (l : List Nd) (k : Int) (h : ok_sRise (l, k)) : body prog (tabS [(i_l9Place, e_l9Place)]) kp_sRise (l.length + 1) F_sRise (ea_sRise (l, k)) = some (erT 2 (eI (f_sRise (l, k)))) := by
  unfold ea_sRise f_sRise
  dsimp only
  rw [pre_sRise]
  have := loop_sRise l k h.1 (l.length + 1) 0 l.length k [] h.2 (by simp)
  rw [List.nil_append] at this
  exact this
theorem s_sRise : EntOk prog i_sRise e_sRise := ent_ok ea_sRise_inj fun x hx =>
  body_sound (φ := (tabS [(i_l9Place, e_l9Place)])) (tabS_cons s_l9Place tabS_nil) mixed (kp := kp_sRise) (n := x.1.length + 1) func175 (c := bodyOf F_sRise) (by kernel_rfl) (body_sRise x.1 x.2 hx) (name_ok (by kernel_rfl))
end Go.Mach.F
namespace Go.Mach.F
open Go Go.Mach Go.Proofs.Try
--=set_option maxRecDepth 100000
def nd (l : List Nd) (k : Int) : Nd := l.getD k.toNat default
def ri (r : List Int) (i : Nat) : Int := r.getD i 0
def upI (l : List Nd) : Prop := ∀ x ∈ l, inI x.up
def badI (l : List Nd) (r : List Int) (i : Nat) : Bool := !decide ((nd l (ri r i)).st = 1) || (decide (i + 1 < r.length) && !decide ((nd l (ri r i)).upEp = (nd l (ri r (i + 1))).ep))
def alvR (l : List Nd) (r : List Int) : Bool := bif (List.range r.length).any (badI l r) then false else decide (0 < r.length) && decide ((nd l (ri r (r.length - 1))).up = 0)
def alv (l : List Nd) (k : Int) : Bool := alvR l (riseN l l.length k)
theorem nd_get {l : List Nd} {k : Int} (h : k.toNat < l.length) : l[k.toNat]? = some (nd l k) := by
  unfold nd
  rw [List.getD_eq_getElem?_getD, List.getElem?_eq_getElem h]
  rfl
theorem nd_mem {l : List Nd} {k : Int} (h : k.toNat < l.length) : nd l k ∈ l := List.mem_of_getElem? (nd_get h)
theorem ri_get {r : List Int} {i : Nat} (h : i < r.length) : r[i]? = some (ri r i) := by
  unfold ri
  rw [List.getD_eq_getElem?_getD, List.getElem?_eq_getElem h]
  rfl
/-- The way up: slots, each the parent of the one ahead of it. -/
theorem riseN_ri {l : List Nd} : ∀ (n : Nat) (k : Int) (i : Nat), i < (riseN l n k).length → (0 ≤ ri (riseN l n k) i ∧ (ri (riseN l n k) i).toNat < l.length) ∧ (i + 1 < (riseN l n k).length → ri (riseN l n k) (i + 1) = IntKind.i64.wrap ((nd l (ri (riseN l n k) i)).up - 1))
  | 0, k, i, h => by simp [riseN] at h
  | n + 1, k, i, h => by
    by_cases h0 : 0 ≤ k ∧ k < l.length
    · have hb : k.toNat < l.length := by omega
      have e : riseN l (n + 1) k = k :: riseN l n (IntKind.i64.wrap ((nd l k).up - 1)) := by
        simp only [riseN, nd_get hb, decide_eq_true h0.1, cond_true]
      rw [e] at h ⊢
      cases i with
      | zero =>
        refine ⟨⟨h0.1, hb⟩, fun h1 => ?_⟩
        show ri (riseN l n (IntKind.i64.wrap ((nd l k).up - 1))) 0 = IntKind.i64.wrap ((nd l k).up - 1)
        cases n with
        | zero => simp [riseN] at h1
        | succ n =>
          by_cases h2 : 0 ≤ IntKind.i64.wrap ((nd l k).up - 1) ∧ IntKind.i64.wrap ((nd l k).up - 1) < l.length
          · have hb2 : (IntKind.i64.wrap ((nd l k).up - 1)).toNat < l.length := by omega
            simp only [riseN, nd_get hb2, decide_eq_true h2.1, cond_true]
            rfl
          · rw [riseN_out h2] at h1
            simp at h1
      | succ i =>
        have h' : i < (riseN l n (IntKind.i64.wrap ((nd l k).up - 1))).length := by simpa using h
        have := riseN_ri n (IntKind.i64.wrap ((nd l k).up - 1)) i h'
        exact ⟨this.1, fun h1 => this.2 (by simpa using h1)⟩
    · rw [riseN_out h0] at h
      simp at h
theorem riseN_len {l : List Nd} : ∀ (n : Nat) (k : Int), (riseN l n k).length ≤ n
  | 0, k => by simp [riseN]
  | n + 1, k => by
    unfold riseN
    cases l[k.toNat]? with
    | none => simp
    | some x =>
      cases decide (0 ≤ k) with
      | false => simp
      | true => simpa using riseN_len n _
section
variable {φ : Sems} {kp : List (Nat × List Nat)} {fn : Func} {p : List Nat} {n : Nat} {K : Ex → St → Res}
theorem forAny (N : Nat) (st : Nat → St) (e : St) (j : Nat) (bad : Nat → Bool) (ex : Ex) (hex : ex ≠ .normal) (eb : Nat → St) (v0 v1 : Res)
    (hr : ∀ i (K : Ex → St → Res), i < N → roundAt prog φ kp fn p n (st i) K = bif bad i then K ex (eb i) else K .normal (st (i + 1))) (he : ∀ K : Ex → St → Res, roundAt prog φ kp fn p n (st N) K = K (.exit j) e)
    (h0 : ∀ i, K ex (eb i) = v0) (h1 : K (.exit j) e = v1) :
    ∀ m, N + 1 ≤ m → loopAt prog φ kp fn p n m (st 0) K = bif (List.range N).any bad then v0 else v1 := by
  intro m hm
  rw [forExit N st e j bad ex hex eb hr he m hm]
  cases hf : (List.range N).find? bad with
  | some i =>
    have : (List.range N).any bad = true := by
      rw [List.any_eq_true]
      exact ⟨i, List.mem_of_find?_eq_some hf, List.find?_some hf⟩
    rw [this]
    exact h0 i
  | none =>
    have : (List.range N).any bad = false := by
      rw [List.any_eq_false]
      exact List.find?_eq_none.1 hf
    rw [this]
    exact h1
end
def i_l9In : Nat := 176
noncomputable abbrev F_l9In : Func := f176
def kp_l9In : List (Nat × List Nat) := [(0, [0, 4, 60, 64, 68, 72, 76, 80, 84, 96, 100, 104, 108, 112, 116, 120, 124, 128, 132, 136, 140]), (1, [0, 4, 20, 60, 64, 68, 72, 76, 80, 84, 96, 100, 104, 108, 112, 116, 120, 124, 128, 132, 136, 140]), (2, [16])]
noncomputable def e_l9In : Ent := inl [] prog (tabS [(i_l9Place, e_l9Place)]) kp_l9In 0 F_l9In
theorem s_l9In : EntOk prog i_l9In e_l9In := inl_ok (tabS_cons s_l9Place tabS_nil) mixed (c := bodyOf F_l9In) func176 (by kernel_rfl) (name_ok (by kernel_rfl))
def ok_iAlive (x : List Nd × Int) : Prop := x.1.length ≤ LM ∧ inI x.2 ∧ upI x.1
def ea_iAlive (x : List Nd × Int) : List Arg := [aT (eL 13 Nd.cs x.1), aI x.2]
def f_iAlive (x : List Nd × Int) : Bool := alv x.1 x.2
noncomputable def e_iAlive : Ent := ent [] ok_iAlive ea_iAlive (erB 2) f_iAlive
theorem ea_iAlive_inj (x y : List Nd × Int) (h : ea_iAlive x = ea_iAlive y) : x = y := by
  obtain ⟨l1, k1⟩ := x
  obtain ⟨l2, k2⟩ := y
  simp only [ea_iAlive, List.cons.injEq, and_true, true_and] at h
  obtain ⟨e0, e1⟩ := h
  obtain rfl := eL_inj Nd.cs_inj (aT_inj e0)
  obtain rfl := aI_inj e1
  rfl
theorem dm_iAlive {l : List Nd} {k : Int} (h : ok_iAlive (l, k)) : dom ok_iAlive ea_iAlive [(0, false, [C.tr false (T.arr 13 l.length (atL Nd.cs l))]), (0, false, [C.tr false (T.int IntKind.i64 k)])] = true := dom_ea (ea := ea_iAlive) (x := (l, k)) h
theorem iv_iAlive {l : List Nd} {k : Int} (h : ok_iAlive (l, k)) : inv ok_iAlive ea_iAlive [(0, false, [C.tr false (T.arr 13 l.length (atL Nd.cs l))]), (0, false, [C.tr false (T.int IntKind.i64 k)])] = (l, k) := inv_ea ea_iAlive_inj (x := (l, k)) h
theorem d_iAlive (l : List Nd) (k : Int) : f_iAlive (l, k) = alv l k := rfl
def i_iAlive : Nat := 151
noncomputable abbrev F_iAlive : Func := f151
def kp_iAlive : List (Nat × List Nat) := [(0, [0, 4]), (1, [0, 20]), (2, [0, 20, 44, 48, 52]), (3, [0, 20, 44, 48, 52, 56, 120, 124, 128, 132, 136, 140, 144, 148, 152, 156, 160, 164, 168, 172, 176, 204, 208, 212, 216, 220, 224, 228, 232, 236, 240, 244]), (4, [0, 20, 24, 28, 44, 48, 52, 120, 124, 128, 132, 136, 140, 144, 148, 152, 156, 160, 164, 168, 172, 176]), (5, [0, 20, 24, 28, 44, 48, 52, 92, 120, 124, 128, 132, 136, 140, 144, 148, 152, 156, 160, 164, 168, 172, 176]), (6, [16]), (7, [0, 20, 44, 48, 52, 180]), (8, [16]), (9, [0, 20, 44, 48, 52]), (10, [16])]
def ts_iAlive : List Nat := [0, 0]
def st_iAlive_1 (l : List Nd) (k : Int) (r1 : List Int) (x52 : Int) : St := [(0, ⟨z0, [(false, [.tr false (eL 13 Nd.cs l)])]⟩), (20, ⟨z0, [(false, [.tr true (.arr (1) (r1.length) (atL rowI r1))])]⟩), (44, ⟨z0, [(false, [(C.ref 20 0 [0, 0] 1 0 r1.length)])]⟩), (48, ⟨z0, [(false, [.tr true (T.int IntKind.i64 (↑r1.length : Int))])]⟩), (52, ⟨z0, [(false, [.tr true (T.int IntKind.i64 x52)])]⟩)]
def ex_iAlive_1_1 (l : List Nd) (k : Int) (x52 : Int) : St := [(16, ⟨z0, [(false, [.tr true (T.bool false)])]⟩)]
def ex_iAlive_1_2 (l : List Nd) (k : Int) (r1 : List Int) (x52 : Int) : St := [(0, ⟨z0, [(false, [.tr false (eL 13 Nd.cs l)])]⟩), (20, ⟨z0, [(false, [.tr true (.arr (1) (r1.length) (atL rowI r1))])]⟩), (44, ⟨z0, [(false, [(C.ref 20 0 [0, 0] 1 0 r1.length)])]⟩), (48, ⟨z0, [(false, [.tr true (T.int IntKind.i64 (↑r1.length : Int))])]⟩), (52, ⟨z0, [(false, [.tr true (T.int IntKind.i64 x52)])]⟩), (56, ⟨z0, []⟩)]
theorem round_iAlive_1 (l : List Nd) (k : Int) (r1 : List Int) (x52 : Int) (n : Nat) (K : Ex → St → Res) : roundAt prog (tabS [(i_iRise, e_iRise)]) kp_iAlive F_iAlive [1, 1, 0, 1, 0] n (st_iAlive_1 l k r1 x52) K = (
 bif decide (x52 < (↑r1.length : Int)) then
  gd (decide (0 ≤ x52) && (x52.toNat.blt r1.length && true)) <|
  gd ((0 + x52.toNat).blt r1.length && true && T.isI IntKind.i64 (atL rowI r1 (0 + x52.toNat) 0)) <|
  gd (decide (0 ≤ (atL rowI r1 (0 + x52.toNat) 0).toI) &&
  ((atL rowI r1 (0 + x52.toNat) 0).toI.toNat.blt l.length && true)) <|
  gd (T.isI IntKind.i64 (atL Nd.cs l (atL rowI r1 (0 + x52.toNat) 0).toI.toNat 0)) <|
  bif (atL Nd.cs l (atL rowI r1 (0 + x52.toNat) 0).toI.toNat 0).toI != 1 then
   K .ret (ex_iAlive_1_1 l k x52)
  else
  bif decide (IntKind.i64.wrap (x52 + 1) < (↑r1.length : Int)) then
   gd (decide (0 ≤ (atL rowI r1 (0 + x52.toNat) 0).toI) &&
  ((atL rowI r1 (0 + x52.toNat) 0).toI.toNat.blt l.length && true)) <|
   gd (T.isI IntKind.i64 (atL Nd.cs l (atL rowI r1 (0 + x52.toNat) 0).toI.toNat 4)) <|
   gd (decide (0 ≤ IntKind.i64.wrap (x52 + 1)) && ((IntKind.i64.wrap (x52 + 1)).toNat.blt r1.length && true)) <|
   gd ((0 + (IntKind.i64.wrap (x52 + 1)).toNat).blt r1.length && true &&
  T.isI IntKind.i64 (atL rowI r1 (0 + (IntKind.i64.wrap (x52 + 1)).toNat) 0)) <|
   gd (decide (0 ≤ (atL rowI r1 (0 + (IntKind.i64.wrap (x52 + 1)).toNat) 0).toI) &&
  ((atL rowI r1 (0 + (IntKind.i64.wrap (x52 + 1)).toNat) 0).toI.toNat.blt l.length && true)) <|
   gd (T.isI IntKind.i64 (atL Nd.cs l (atL rowI r1 (0 + (IntKind.i64.wrap (x52 + 1)).toNat) 0).toI.toNat 2)) <|
   bif (atL Nd.cs l (atL rowI r1 (0 + x52.toNat) 0).toI.toNat 4).toI !=
  (atL Nd.cs l (atL rowI r1 (0 + (IntKind.i64.wrap (x52 + 1)).toNat) 0).toI.toNat 2).toI then
    K .ret (ex_iAlive_1_1 l k x52)
   else
   K .normal (st_iAlive_1 l k r1 (IntKind.i64.wrap (x52 + 1)))
  else
  K .normal (st_iAlive_1 l k r1 (IntKind.i64.wrap (x52 + 1)))
 else
 K (.exit 0) (ex_iAlive_1_2 l k r1 x52)) := by kernel_rfl
theorem post_iAlive_1_1 (l : List Nd) (k : Int) (x52 : Int) (n : Nat) : contAt prog (tabS [(i_iRise, e_iRise)]) kp_iAlive F_iAlive ts_iAlive [1, 1, 0, 1, 0] [] n .ret (ex_iAlive_1_1 l k x52) = (
 some ([(false, [.tr true (T.bool false)])], [(false, []), (false, [])])) := by kernel_rfl
theorem post_iAlive_1_2 (l : List Nd) (k : Int) (r1 : List Int) (x52 : Int) (n : Nat) : contAt prog (tabS [(i_iRise, e_iRise)]) kp_iAlive F_iAlive ts_iAlive [1, 1, 0, 1, 0] [] n (.exit 0) (ex_iAlive_1_2 l k r1 x52) = (
 bif decide (0 < (↑r1.length : Int)) then
  gd (decide (0 ≤ IntKind.i64.wrap ((↑r1.length : Int) - 1)) &&
  ((IntKind.i64.wrap ((↑r1.length : Int) - 1)).toNat.blt r1.length && true)) <|
  gd ((0 + (IntKind.i64.wrap ((↑r1.length : Int) - 1)).toNat).blt r1.length && true &&
  T.isI IntKind.i64 (atL rowI r1 (0 + (IntKind.i64.wrap ((↑r1.length : Int) - 1)).toNat) 0)) <|
  gd (decide (0 ≤ (atL rowI r1 (0 + (IntKind.i64.wrap ((↑r1.length : Int) - 1)).toNat) 0).toI) &&
  ((atL rowI r1 (0 + (IntKind.i64.wrap ((↑r1.length : Int) - 1)).toNat) 0).toI.toNat.blt l.length &&
    true)) <|
  gd (T.isI IntKind.i64
  (atL Nd.cs l (atL rowI r1 (0 + (IntKind.i64.wrap ((↑r1.length : Int) - 1)).toNat) 0).toI.toNat 3)) <|
  some ([(false, [.tr true (T.bool
  ((atL Nd.cs l (atL rowI r1 (0 + (IntKind.i64.wrap ((↑r1.length : Int) - 1)).toNat) 0).toI.toNat
        3).toI ==
    0))])], [(false, []), (false, [])])
 else
 some ([(false, [.tr true (T.bool false)])], [(false, []), (false, [])])) := by kernel_rfl
theorem pre_iAlive (l : List Nd) (k : Int) (n : Nat) : body prog (tabS [(i_iRise, e_iRise)]) kp_iAlive n F_iAlive [aT (eL 13 Nd.cs l), aI k] = (
 entK ok_iRise ea_iRise (f_iRise) [(0, false, [C.tr false (eL 13 Nd.cs l)]), (0, false, [C.tr false (T.int IntKind.i64 k)])] fun (r1 : List Int) =>
 gd (r1.length.ble r1.length && true) <|
 loopAt prog (tabS [(i_iRise, e_iRise)]) kp_iAlive F_iAlive [1, 1, 0, 1, 0] n n (st_iAlive_1 l k r1 (0)) (contAt prog (tabS [(i_iRise, e_iRise)]) kp_iAlive F_iAlive ts_iAlive [1, 1, 0, 1, 0] [] n)) := by kernel_rfl
def ok_sAlive (x : List Nd × Int) : Prop := x.1.length ≤ LM ∧ inI x.2 ∧ upI x.1
def ea_sAlive (x : List Nd × Int) : List Arg := [aT (eL 13 Nd.cs x.1), aI x.2]
def f_sAlive (x : List Nd × Int) : Bool := alv x.1 x.2
noncomputable def e_sAlive : Ent := ent [] ok_sAlive ea_sAlive (erB 2) f_sAlive
theorem ea_sAlive_inj (x y : List Nd × Int) (h : ea_sAlive x = ea_sAlive y) : x = y := by
  obtain ⟨l1, k1⟩ := x
  obtain ⟨l2, k2⟩ := y
  simp only [ea_sAlive, List.cons.injEq, and_true, true_and] at h
  obtain ⟨e0, e1⟩ := h
  obtain rfl := eL_inj Nd.cs_inj (aT_inj e0)
  obtain rfl := aI_inj e1
  rfl
theorem dm_sAlive {l : List Nd} {k : Int} (h : ok_sAlive (l, k)) : dom ok_sAlive ea_sAlive [(0, false, [C.tr false (T.arr 13 l.length (atL Nd.cs l))]), (0, false, [C.tr false (T.int IntKind.i64 k)])] = true := dom_ea (ea := ea_sAlive) (x := (l, k)) h
theorem iv_sAlive {l : List Nd} {k : Int} (h : ok_sAlive (l, k)) : inv ok_sAlive ea_sAlive [(0, false, [C.tr false (T.arr 13 l.length (atL Nd.cs l))]), (0, false, [C.tr false (T.int IntKind.i64 k)])] = (l, k) := inv_ea ea_sAlive_inj (x := (l, k)) h
theorem d_sAlive (l : List Nd) (k : Int) : f_sAlive (l, k) = alv l k := rfl
def i_sAlive : Nat := 149
noncomputable abbrev F_sAlive : Func := f149
def kp_sAlive : List (Nat × List Nat) := [(0, [0, 4]), (1, [0, 20]), (2, [0, 20, 24]), (3, [0, 20, 24, 52, 104, 108, 112, 116, 120, 124, 128, 132, 136, 140, 144, 148, 152, 156, 180, 184, 188, 192, 196, 200, 204, 208, 212, 216, 220]), (4, [0, 20, 24]), (5, [0, 20, 24, 160]), (6, [16]), (7, [16])]
def ts_sAlive : List Nat := [0, 0]
def st_sAlive_1 (l : List Nd) (k : Int) (r1 : List Int) (x24 : Int) : St := [(0, ⟨z0, [(false, [.tr false (eL 13 Nd.cs l)])]⟩), (20, ⟨z0, [(false, [.tr true (.arr (1) (r1.length) (atL rowI r1))])]⟩), (24, ⟨z0, [(false, [.tr true (T.int IntKind.i64 x24)])]⟩)]
def ex_sAlive_1_1 (l : List Nd) (k : Int) (x24 : Int) : St := [(16, ⟨z0, [(false, [.tr true (T.bool false)])]⟩)]
def ex_sAlive_1_2 (l : List Nd) (k : Int) (r1 : List Int) (x24 : Int) : St := [(0, ⟨z0, [(false, [.tr false (eL 13 Nd.cs l)])]⟩), (20, ⟨z0, [(false, [.tr true (.arr (1) (r1.length) (atL rowI r1))])]⟩), (24, ⟨z0, [(false, [.tr true (T.int IntKind.i64 x24)])]⟩), (52, ⟨z0, []⟩)]
theorem round_sAlive_1 (l : List Nd) (k : Int) (r1 : List Int) (x24 : Int) (n : Nat) (K : Ex → St → Res) : roundAt prog (tabS [(i_sRise, e_sRise), (i_l9In, e_l9In)]) kp_sAlive F_sAlive [1, 1, 0, 1, 0] n (st_sAlive_1 l k r1 x24) K = (
 bif decide (x24 < (↑r1.length : Int)) then
  gd (decide (0 ≤ x24) && (x24.toNat.blt r1.length && true)) <|
  gd ((0 + x24.toNat).blt r1.length && true && T.isI IntKind.i64 (atL rowI r1 (0 + x24.toNat) 0)) <|
  gd (decide (0 ≤ (atL rowI r1 (0 + x24.toNat) 0).toI) &&
  ((atL rowI r1 (0 + x24.toNat) 0).toI.toNat.blt l.length && true)) <|
  gd (T.isI IntKind.i64 (atL Nd.cs l (atL rowI r1 (0 + x24.toNat) 0).toI.toNat 0)) <|
  bif (atL Nd.cs l (atL rowI r1 (0 + x24.toNat) 0).toI.toNat 0).toI != 1 then
   K .ret (ex_sAlive_1_1 l k x24)
  else
  bif decide (IntKind.i64.wrap (x24 + 1) < (↑r1.length : Int)) then
   gd (decide (0 ≤ x24) && (x24.toNat.blt r1.length && true)) <|
   gd ((0 + x24.toNat).blt r1.length && true && T.isI IntKind.i64 (atL rowI r1 (0 + x24.toNat) 0)) <|
   gd (decide (0 ≤ (atL rowI r1 (0 + x24.toNat) 0).toI) &&
  ((atL rowI r1 (0 + x24.toNat) 0).toI.toNat.blt l.length && true)) <|
   gd (T.isI IntKind.i64 (atL Nd.cs l (atL rowI r1 (0 + x24.toNat) 0).toI.toNat 3)) <|
   bif decide (1 ≤ (atL Nd.cs l (atL rowI r1 (0 + x24.toNat) 0).toI.toNat 3).toI) then
    bif decide ((atL Nd.cs l (atL rowI r1 (0 + x24.toNat) 0).toI.toNat 3).toI ≤ (↑l.length : Int)) then
     gd (decide (0 ≤ IntKind.i64.wrap ((atL Nd.cs l (atL rowI r1 (0 + x24.toNat) 0).toI.toNat 3).toI - 1)) &&
  ((IntKind.i64.wrap ((atL Nd.cs l (atL rowI r1 (0 + x24.toNat) 0).toI.toNat 3).toI - 1)).toNat.blt l.length &&
    true)) <|
     gd (T.isI IntKind.i64
  (atL Nd.cs l (IntKind.i64.wrap ((atL Nd.cs l (atL rowI r1 (0 + x24.toNat) 0).toI.toNat 3).toI - 1)).toNat 0)) <|
     bif (atL Nd.cs l (IntKind.i64.wrap ((atL Nd.cs l (atL rowI r1 (0 + x24.toNat) 0).toI.toNat 3).toI - 1)).toNat
      0).toI ==
  1 then
      gd (decide (0 ≤ IntKind.i64.wrap ((atL Nd.cs l (atL rowI r1 (0 + x24.toNat) 0).toI.toNat 3).toI - 1)) &&
  ((IntKind.i64.wrap ((atL Nd.cs l (atL rowI r1 (0 + x24.toNat) 0).toI.toNat 3).toI - 1)).toNat.blt l.length &&
    true)) <|
      gd (T.isI IntKind.i64
  (atL Nd.cs l (IntKind.i64.wrap ((atL Nd.cs l (atL rowI r1 (0 + x24.toNat) 0).toI.toNat 3).toI - 1)).toNat 2)) <|
      gd (decide (0 ≤ (atL rowI r1 (0 + x24.toNat) 0).toI) &&
  ((atL rowI r1 (0 + x24.toNat) 0).toI.toNat.blt l.length && true)) <|
      gd (T.isI IntKind.i64 (atL Nd.cs l (atL rowI r1 (0 + x24.toNat) 0).toI.toNat 4)) <|
      bif !(atL Nd.cs l (IntKind.i64.wrap ((atL Nd.cs l (atL rowI r1 (0 + x24.toNat) 0).toI.toNat 3).toI - 1)).toNat
        2).toI ==
    (atL Nd.cs l (atL rowI r1 (0 + x24.toNat) 0).toI.toNat 4).toI then
       K .ret (ex_sAlive_1_1 l k x24)
      else
      K .normal (st_sAlive_1 l k r1 (IntKind.i64.wrap (x24 + 1)))
     else
     K .ret (ex_sAlive_1_1 l k x24)
    else
    K .ret (ex_sAlive_1_1 l k x24)
   else
   K .ret (ex_sAlive_1_1 l k x24)
  else
  K .normal (st_sAlive_1 l k r1 (IntKind.i64.wrap (x24 + 1)))
 else
 K (.exit 0) (ex_sAlive_1_2 l k r1 x24)) := by kernel_rfl
theorem post_sAlive_1_1 (l : List Nd) (k : Int) (x24 : Int) (n : Nat) : contAt prog (tabS [(i_sRise, e_sRise), (i_l9In, e_l9In)]) kp_sAlive F_sAlive ts_sAlive [1, 1, 0, 1, 0] [] n .ret (ex_sAlive_1_1 l k x24) = (
 some ([(false, [.tr true (T.bool false)])], [(false, []), (false, [])])) := by kernel_rfl
theorem post_sAlive_1_2 (l : List Nd) (k : Int) (r1 : List Int) (x24 : Int) (n : Nat) : contAt prog (tabS [(i_sRise, e_sRise), (i_l9In, e_l9In)]) kp_sAlive F_sAlive ts_sAlive [1, 1, 0, 1, 0] [] n (.exit 0) (ex_sAlive_1_2 l k r1 x24) = (
 bif decide (0 < (↑r1.length : Int)) then
  gd (decide (0 ≤ IntKind.i64.wrap ((↑r1.length : Int) - 1)) &&
  ((IntKind.i64.wrap ((↑r1.length : Int) - 1)).toNat.blt r1.length && true)) <|
  gd ((0 + (IntKind.i64.wrap ((↑r1.length : Int) - 1)).toNat).blt r1.length && true &&
  T.isI IntKind.i64 (atL rowI r1 (0 + (IntKind.i64.wrap ((↑r1.length : Int) - 1)).toNat) 0)) <|
  gd (decide (0 ≤ (atL rowI r1 (0 + (IntKind.i64.wrap ((↑r1.length : Int) - 1)).toNat) 0).toI) &&
  ((atL rowI r1 (0 + (IntKind.i64.wrap ((↑r1.length : Int) - 1)).toNat) 0).toI.toNat.blt l.length &&
    true)) <|
  gd (T.isI IntKind.i64
  (atL Nd.cs l (atL rowI r1 (0 + (IntKind.i64.wrap ((↑r1.length : Int) - 1)).toNat) 0).toI.toNat 3)) <|
  some ([(false, [.tr true (T.bool
  ((atL Nd.cs l (atL rowI r1 (0 + (IntKind.i64.wrap ((↑r1.length : Int) - 1)).toNat) 0).toI.toNat
        3).toI ==
    0))])], [(false, []), (false, [])])
 else
 some ([(false, [.tr true (T.bool false)])], [(false, []), (false, [])])) := by kernel_rfl
theorem pre_sAlive (l : List Nd) (k : Int) (n : Nat) : body prog (tabS [(i_sRise, e_sRise), (i_l9In, e_l9In)]) kp_sAlive n F_sAlive [aT (eL 13 Nd.cs l), aI k] = (
 entK ok_sRise ea_sRise (f_sRise) [(0, false, [C.tr false (eL 13 Nd.cs l)]), (0, false, [C.tr false (T.int IntKind.i64 k)])] fun (r1 : List Int) =>
 gd (r1.length.ble r1.length && true) <|
 loopAt prog (tabS [(i_sRise, e_sRise), (i_l9In, e_l9In)]) kp_sAlive F_sAlive [1, 1, 0, 1, 0] n n (st_sAlive_1 l k r1 (0)) (contAt prog (tabS [(i_sRise, e_sRise), (i_l9In, e_l9In)]) kp_sAlive F_sAlive ts_sAlive [1, 1, 0, 1, 0] [] n)) := by kernel_rfl
end Go.Mach.F
namespace Go.Mach.F
open Go Go.Mach Go.Proofs.Try
theorem body_iAlive (l : List Nd) (k : Int) (h : ok_iAlive (l, k)) : body prog (tabS [(i_iRise, e_iRise)]) kp_iAlive (l.length + 1) F_iAlive (ea_iAlive (l, k)) = some (erB 2 (f_iAlive (l, k))) := by
  have hlm := lm
  obtain ⟨hl, hk, hu⟩ := h
  dsimp only at hl hk hu
  have c0 : ok_iRise (l, k) := ⟨hl, hk⟩
  unfold ea_iAlive f_iAlive
  dsimp only
  rw [pre_iAlive]
  simp only [lt_d, ge0_d, Int.toNat_natCast, blt_d, ble_self, beq_self, decide_true, cond_true, Bool.and_self, Bool.and_true, Bool.true_and, gd_true, Nat.zero_add, List.getD_cons_zero, List.getD_cons_succ, isI_int, toI_int, isB_bool, toB_bool, eL_T, arr_ln, arr_fn, arr_wd, arr_is, arr_get, eL_T, entK_of (dm_iRise c0) (iv_iRise c0), d_iRise]
  have hn := riseN_len (l := l) l.length k
  have hri := riseN_ri (l := l) l.length k
  unfold alv
  obtain ⟨r, hr⟩ : ∃ r, r = riseN l l.length k := ⟨_, rfl⟩
  rw [← hr] at hn hri ⊢
  rw [show st_iAlive_1 l k r 0 = (fun i : Nat => st_iAlive_1 l k r (i : Nat)) 0 from rfl]
  refine (forAny r.length (fun i : Nat => st_iAlive_1 l k r (i : Nat)) (ex_iAlive_1_2 l k r r.length) 0 (badI l r) .ret (by simp) (fun i => ex_iAlive_1_1 l k i) (some (erB 2 false))
      (some (erB 2 (decide (0 < r.length) && decide ((nd l (ri r (r.length - 1))).up = 0)))) (fun i K hi => ?_) (fun K => ?_) (fun i => ?_) ?_ _ (by omega)).trans ?_
  · have h1 := (hri i hi).1
    have hx := nd_get h1.2
    rw [round_iAlive_1]
    have hw : IntKind.i64.wrap ((i : Int) + 1) = ((i + 1 : Nat) : Int) := by rw [IntKind.wrap_i64]; omega
    simp only [lt_d, ge0_d, Int.toNat_natCast, blt_d, ble_self, beq_self, decide_true, cond_true, Bool.and_self, Bool.and_true, Bool.true_and, gd_true, Nat.zero_add, List.getD_cons_zero, List.getD_cons_succ, isI_int, toI_int, isB_bool, toB_bool, eL_T, arr_ln, arr_fn, arr_wd, arr_is, arr_get, hw, hi, decide_eq_true h1.1, decide_eq_true h1.2, atL_of (ri_get hi), rowI, atL_of hx, Nd.cs, int_ne]
    unfold badI
    by_cases e1 : (nd l (ri r i)).st = 1
    · simp only [e1, decide_true, Bool.not_true, Bool.false_or, cond_false]
      by_cases e2 : i + 1 < r.length
      · have h2 := (hri (i + 1) e2).1
        have hy := nd_get h2.2
        simp only [lt_d, ge0_d, Int.toNat_natCast, blt_d, ble_self, beq_self, decide_true, cond_true, Bool.and_self, Bool.and_true, Bool.true_and, gd_true, Nat.zero_add, List.getD_cons_zero, List.getD_cons_succ, isI_int, toI_int, isB_bool, toB_bool, eL_T, arr_ln, arr_fn, arr_wd, arr_is, arr_get, e2, decide_true, cond_true, decide_eq_true h2.1, decide_eq_true h2.2, atL_of (ri_get e2), rowI, atL_of hy, Nd.cs, Bool.true_and, int_ne]
      · simp only [e2, decide_false, cond_false, Bool.false_and]
    · simp only [e1, decide_false, Bool.not_false, Bool.true_or, cond_true]
  · rw [round_iAlive_1]
    simp only [lt_d, Nat.lt_irrefl, decide_false, cond_false]
  · exact post_iAlive_1_1 l k i _
  · rw [post_iAlive_1_2]
    by_cases e0 : 0 < r.length
    · have h1 := (hri (r.length - 1) (by omega)).1
      have hx := nd_get h1.2
      have hw : IntKind.i64.wrap ((r.length : Int) - 1) = ((r.length - 1 : Nat) : Int) := by rw [IntKind.wrap_i64]; omega
      have hb : r.length - 1 < r.length := by omega
      have e0' : (0 : Int) < (r.length : Int) := by omega
      simp only [lt_d, ge0_d, Int.toNat_natCast, blt_d, ble_self, beq_self, decide_true, cond_true, Bool.and_self, Bool.and_true, Bool.true_and, gd_true, Nat.zero_add, List.getD_cons_zero, List.getD_cons_succ, isI_int, toI_int, isB_bool, toB_bool, eL_T, arr_ln, arr_fn, arr_wd, arr_is, arr_get, hw, e0, e0', hb, decide_true, cond_true, decide_eq_true h1.1, decide_eq_true h1.2, atL_of (ri_get hb), rowI, atL_of hx, Nd.cs, int_eq, Bool.true_and]
      rfl
    · have e0' : ¬ (0 : Int) < (r.length : Int) := by omega
      simp only [e0, e0', decide_false, cond_false, Bool.false_and]
      rfl
  · unfold alvR
    cases (List.range r.length).any (badI l r) <;> rfl
theorem s_iAlive : EntOk prog i_iAlive e_iAlive := ent_ok ea_iAlive_inj fun x hx =>
  body_sound (φ := (tabS [(i_iRise, e_iRise)])) (tabS_cons s_iRise tabS_nil) mixed (kp := kp_iAlive) (n := x.1.length + 1) func151 (c := bodyOf F_iAlive) (by kernel_rfl) (body_iAlive x.1 x.2 hx) (name_ok (by kernel_rfl))
def badJ (l : List Nd) (r : List Int) (i : Nat) : Bool := !decide ((nd l (ri r i)).st = 1) || (decide (i + 1 < r.length) && !(decide ((nd l (ri r (i + 1))).st = 1) && decide ((nd l (ri r (i + 1))).ep = (nd l (ri r i)).upEp)))
theorem any_badJ (l : List Nd) (r : List Int) : (List.range r.length).any (badJ l r) = (List.range r.length).any (badI l r) := by
  rw [Bool.eq_iff_iff, List.any_eq_true, List.any_eq_true]
  constructor
  · rintro ⟨i, hi, hb⟩
    have hi' := List.mem_range.1 hi
    by_cases h : i + 1 < r.length ∧ (nd l (ri r i)).st = 1 ∧ ¬ (nd l (ri r (i + 1))).st = 1
    · exact ⟨i + 1, List.mem_range.2 h.1, by simp [badI, h.2.2]⟩
    · refine ⟨i, hi, ?_⟩
      simp only [badI, badJ, Bool.or_eq_true, Bool.and_eq_true, Bool.not_eq_true', Bool.and_eq_false_iff, decide_eq_true_eq, decide_eq_false_iff_not] at hb ⊢
      by_cases h1 : (nd l (ri r i)).st = 1
      · rcases hb with hb | ⟨h2, h3⟩
        · exact .inl hb
        · refine .inr ⟨h2, fun e => ?_⟩
          rcases h3 with h3 | h3
          · exact h ⟨h2, h1, h3⟩
          · exact h3 e.symm
      · exact .inl h1
  · rintro ⟨i, hi, hb⟩
    refine ⟨i, hi, ?_⟩
    simp only [badI, badJ, Bool.or_eq_true, Bool.and_eq_true, Bool.not_eq_true', Bool.and_eq_false_iff, decide_eq_true_eq, decide_eq_false_iff_not] at hb ⊢
    rcases hb with hb | ⟨h2, h3⟩
    · exact .inl hb
    · exact .inr ⟨h2, .inr fun e => h3 e.symm⟩
theorem body_sAlive (l : List Nd) (k : Int) (h : ok_sAlive (l, k)) : body prog (tabS [(i_sRise, e_sRise), (i_l9In, e_l9In)]) kp_sAlive (l.length + 1) F_sAlive (ea_sAlive (l, k)) = some (erB 2 (f_sAlive (l, k))) := by
  have hlm := lm
  obtain ⟨hl, hk, hu⟩ := h
  dsimp only at hl hk hu
  have c0 : ok_sRise (l, k) := ⟨hl, hk⟩
  unfold ea_sAlive f_sAlive
  dsimp only
  rw [pre_sAlive]
  simp only [lt_d, ge0_d, Int.toNat_natCast, blt_d, ble_self, beq_self, decide_true, cond_true, Bool.and_self, Bool.and_true, Bool.true_and, gd_true, Nat.zero_add, List.getD_cons_zero, List.getD_cons_succ, isI_int, toI_int, isB_bool, toB_bool, eL_T, arr_ln, arr_fn, arr_wd, arr_is, arr_get, eL_T, entK_of (dm_sRise c0) (iv_sRise c0), d_sRise]
  have hn := riseN_len (l := l) l.length k
  have hri := riseN_ri (l := l) l.length k
  unfold alv
  obtain ⟨r, hr⟩ : ∃ r, r = riseN l l.length k := ⟨_, rfl⟩
  rw [← hr] at hn hri ⊢
  rw [show st_sAlive_1 l k r 0 = (fun i : Nat => st_sAlive_1 l k r (i : Nat)) 0 from rfl]
  refine (forAny r.length (fun i : Nat => st_sAlive_1 l k r (i : Nat)) (ex_sAlive_1_2 l k r r.length) 0 (badJ l r) .ret (by simp) (fun i => ex_sAlive_1_1 l k i) (some (erB 2 false))
      (some (erB 2 (decide (0 < r.length) && decide ((nd l (ri r (r.length - 1))).up = 0)))) (fun i K hi => ?_) (fun K => ?_) (fun i => ?_) ?_ _ (by omega)).trans ?_
  · have h1 := (hri i hi).1
    have hx := nd_get h1.2
    rw [round_sAlive_1]
    have hw : IntKind.i64.wrap ((i : Int) + 1) = ((i + 1 : Nat) : Int) := by rw [IntKind.wrap_i64]; omega
    simp only [lt_d, ge0_d, Int.toNat_natCast, blt_d, ble_self, beq_self, decide_true, cond_true, Bool.and_self, Bool.and_true, Bool.true_and, gd_true, Nat.zero_add, List.getD_cons_zero, List.getD_cons_succ, isI_int, toI_int, isB_bool, toB_bool, eL_T, arr_ln, arr_fn, arr_wd, arr_is, arr_get, hw, hi, decide_eq_true h1.1, decide_eq_true h1.2, atL_of (ri_get hi), rowI, atL_of hx, Nd.cs, int_ne, int_eq]
    unfold badJ
    by_cases e1 : (nd l (ri r i)).st = 1
    · simp only [e1, decide_true, Bool.not_true, Bool.false_or, cond_false]
      by_cases e2 : i + 1 < r.length
      · have h2 := (hri (i + 1) e2).1
        have hy := nd_get h2.2
        have h3 := (hri i hi).2 e2
        have h4 := hu _ (nd_mem h1.2)
        unfold inI at h4
        have h5 : 1 ≤ (nd l (ri r i)).up ∧ (nd l (ri r i)).up ≤ l.length := by
          rw [IntKind.wrap_i64] at h3
          omega
        simp only [lt_d, ge0_d, Int.toNat_natCast, blt_d, ble_self, beq_self, decide_true, cond_true, Bool.and_self, Bool.and_true, Bool.true_and, gd_true, Nat.zero_add, List.getD_cons_zero, List.getD_cons_succ, isI_int, toI_int, isB_bool, toB_bool, eL_T, arr_ln, arr_fn, arr_wd, arr_is, arr_get, e2, decide_true, cond_true, ← h3, decide_eq_true h5.1, decide_eq_true h5.2, decide_eq_true h2.1, decide_eq_true h2.2, atL_of hy, Nd.cs, Bool.true_and]
        by_cases e3 : (nd l (ri r (i + 1))).st = 1
        · simp only [e3, decide_true, cond_true, Bool.true_and]
        · simp only [e3, decide_false, cond_false, Bool.false_and, Bool.not_false, cond_true]
      · simp only [e2, decide_false, cond_false, Bool.false_and]
    · simp only [e1, decide_false, Bool.not_false, Bool.true_or, cond_true]
  · rw [round_sAlive_1]
    simp only [lt_d, Nat.lt_irrefl, decide_false, cond_false]
  · exact post_sAlive_1_1 l k i _
  · rw [post_sAlive_1_2]
    by_cases e0 : 0 < r.length
    · have h1 := (hri (r.length - 1) (by omega)).1
      have hx := nd_get h1.2
      have hw : IntKind.i64.wrap ((r.length : Int) - 1) = ((r.length - 1 : Nat) : Int) := by rw [IntKind.wrap_i64]; omega
      have hb : r.length - 1 < r.length := by omega
      have e0' : (0 : Int) < (r.length : Int) := by omega
      simp only [lt_d, ge0_d, Int.toNat_natCast, blt_d, ble_self, beq_self, decide_true, cond_true, Bool.and_self, Bool.and_true, Bool.true_and, gd_true, Nat.zero_add, List.getD_cons_zero, List.getD_cons_succ, isI_int, toI_int, isB_bool, toB_bool, eL_T, arr_ln, arr_fn, arr_wd, arr_is, arr_get, hw, e0, e0', hb, decide_true, cond_true, decide_eq_true h1.1, decide_eq_true h1.2, atL_of (ri_get hb), rowI, atL_of hx, Nd.cs, int_eq, Bool.true_and]
      rfl
    · have e0' : ¬ (0 : Int) < (r.length : Int) := by omega
      simp only [e0, e0', decide_false, cond_false, Bool.false_and]
      rfl
  · rw [any_badJ]
    unfold alvR
    cases (List.range r.length).any (badI l r) <;> rfl
theorem s_sAlive : EntOk prog i_sAlive e_sAlive := ent_ok ea_sAlive_inj fun x hx =>
  body_sound (φ := (tabS [(i_sRise, e_sRise), (i_l9In, e_l9In)])) (tabS_cons s_sRise (tabS_cons s_l9In tabS_nil)) mixed (kp := kp_sAlive) (n := x.1.length + 1) func149 (c := bodyOf F_sAlive) (by kernel_rfl) (body_sAlive x.1 x.2 hx) (name_ok (by kernel_rfl))
end Go.Mach.F
namespace Go.Mach
open Go
section
variable {P : Program} {φ : Sems}
theorem S.free {E σ a w} (h : S E σ a w) (t : Nat) (x : Value) (hr : (σ.get (slot t)).rows = []) : S E σ (a.put (some t) x) w := by
  obtain ⟨G, hG, hp⟩ := h
  refine ⟨G, ⟨hG.nd, hG.inj, hG.rng, hG.os, hG.tape, hG.output, hG.size, hG.kept, fun t' => ?_, hG.boxes, hG.exts, hG.xbox, hG.defers, ?_, hG.here⟩, hp⟩
  · by_cases e : t' = t
    · subst e
      rw [hr]
      trivial
    · have := hG.slots t'
      have e2 : (a.put (some t) x).tmps.getD t' undef = a.tmps.getD t' undef := by
        simp only [Act.put, Array.getD_eq_getD_getElem?]
        rw [Array.getElem?_setIfInBounds_ne (fun h => e h.symm)]
      rw [e2]
      exact this
  · have := hG.tm
    simpa [Act.put] using this
/-- What a function's code computes if it ends in a return. -/
def bodyR (P : Program) (φ : Sems) (kp : List (Nat × List Nat)) (n : Nat) (fn : Func) (X : Code) (args : List Arg) : Res :=
  exec P φ (kpOf kp) fn.ntmps none n X (initA fn.ntmps 0 args) fun e σ => match e with
    | .ret => resultsK P φ none fn (args.map (·.1)) σ fun rows outs => some (rows, outs)
    | _ => none
theorem ret_sound (hφ : SemsOk P φ) (hm : P.follows .mixedOrders = true) {kp : List (Nat × List Nat)} {n : Nat} {fn : Func} {X : Code} {args : List Arg} {rs outs : List Row} (h : bodyR P φ kp n fn X args = some (rs, outs))
    {w : World} {vals : Array Value} {γ : Nat → Gh} (hargs : ArgsX w args vals γ) {a : Act} (hS : S ⟨w, Dof γ, fn.ntmps, fun i => vals.getD i undef, fun t => initG fn.ntmps args γ (box t) []⟩ (initA fn.ntmps 0 args) a w) :
    X.wp P (fun e a w' => e = .ret ∧ bodyPost P fn (fun e w' => ∃ v δ, e = .returned v ∧ GrewD w w' (Dof γ) ∧ ResX w w' γ args vals rs outs v δ) .ret a w') a w := by
  unfold bodyR at h
  have h' := cast (exec_nat (P := P) (φ := φ) (fun o : Option (List Row × List Row) => o = some (rs, outs)) (z := none) (z' := False) (by simp) (kpOf kp) fn.ntmps n X (initA fn.ntmps 0 args) fun e σ => match e with
    | .ret => resultsK P φ none fn (args.map (·.1)) σ fun rows outs => some (rows, outs)
    | _ => none) h
  have hxb : ∀ i x, args[i]? = some x → x.1 = 2 → (fun t => initG fn.ntmps args γ (box t) []) (fn.ntmps + i) = γ i [] := fun i x hi ht => by
    simp only
    rw [initG_box, tagOf_eq hi, if_pos ht]
  refine cond_sound hm (E := ⟨w, Dof γ, fn.ntmps, fun i => vals.getD i undef, fun t => initG fn.ntmps args γ (box t) []⟩) hφ X _ _ _ _ _ h' hS fun e σ' a' w' hK hS => ?_
  cases e with
  | exit i => cases hK
  | normal => cases hK
  | ret => exact ⟨rfl, post_sound hargs hxb hS hK⟩
theorem clone_sound (hφ : SemsOk P φ) (hm : P.follows .mixedOrders = true) {kp : List (Nat × List Nat)} {n : Nat} {f : FuncId} {fn : Func} (hf : P.funcs[f]? = some fn) (hN : fn.name ≠ "runtime.NumGoroutine") {o0 o1 o2 : Oper} {A B : Code}
    (hc : fn.body = some (.seq (.region 0 #[o0] false) (.seq (.seq (.region 1 #[o1, o2] false) (.cond (.tmp 4) A .skip)) B)))
    (g0 : o0.guard = none) (g1 : o1.guard = none) (g2 : o2.guard = none)
    (h0 : ∀ a w K Q, K (a.put (some 2) (.slice none 0 0)) w → o0.wp P a w K Q)
    (h1 : ∀ a w K Q, K (a.put (some 3) (a.eval (.tmp 0))) w → o1.wp P a w K Q)
    (h2 : ∀ a w K Q Ad k c, a.eval (.tmp 3) = .slice Ad k c → K (a.put (some 4) (.bool Ad.isNone)) w → o2.wp P a w K Q)
    (hnt : 5 ≤ fn.ntmps) {m k : Nat} {ft : Nat → Nat → T} {rs outs : List Row}
    (hA : k = 0 → bodyR P φ kp n fn A [F.aT (.arr m k ft)] = some (rs, outs))
    (hB : bodyR P φ kp n fn B [F.aT (.arr m k ft)] = some (rs, outs)) : Sound P f [F.aT (.arr m k ft)] rs outs := by
  refine ⟨⟨fn, hf, by rw [hc]; rfl, hN⟩, fun w vals γ hargs => ?_⟩
  have hS := S.init (nt := fn.ntmps) hargs (by simp only [List.length_cons, List.length_nil]; omega)
  obtain ⟨v, hv, hok⟩ := hargs.arg 0 _ rfl
  have hr : RelIm w (calleeEnv w (Dof γ)).N (.arr m k ft) v := by
    unfold ArgOk at hok
    rw [if_neg (by simp [F.aT]), if_neg (by simp [F.aT])] at hok
    exact hok (fun _ => noG) fun _ => z0
  obtain ⟨Ad, cap, rfl, hcap, hpos⟩ := hr
  refine calls_of_wp hf hc ?_
  have hsz := hargs.size
  simp only [List.length_cons, List.length_nil] at hsz
  generalize ha : (⟨vals ++ Array.replicate (fn.ntmps - vals.size) undef, []⟩ : Act) = a at hS ⊢
  have hat : a.tmps.size = fn.ntmps := by rw [← ha]; simp; omega
  have ha0 : a.eval (.tmp 0) = .slice Ad k cap := by
    rw [← ha]
    simp only [Act.eval, Array.getD_eq_getD_getElem?]
    rw [Array.getElem?_append_left (by omega), hv]
    rfl
  have want : ∀ (o : Oper) t, o.guard = none → Region.wanted o t = true := fun o t h => by simp [Region.wanted, h]
  refine wp_seq (wp_region ?_)
  show wpOps P #[o0] _ [0] a w
  simp only [wpOps, List.getElem?_toArray, List.getElem?_cons_zero, want _ _ g0, if_true]
  refine .inl (h0 _ _ _ _ ?_)
  refine wp_seq (wp_seq (wp_region ?_))
  show wpOps P #[o1, o2] _ [0, 1] _ w
  simp only [wpOps, List.getElem?_toArray, List.getElem?_cons_zero, List.getElem?_cons_succ, want _ _ g1, want _ _ g2, if_true]
  refine .inl (h1 _ _ _ _ (.inl (h2 _ _ _ _ Ad k cap ?_ ?_)))
  · have e1 : (a.put (some 2) (.slice none 0 0)).eval (.tmp 0) = .slice Ad k cap := by
      rw [← ha0]
      simp [Act.put, Act.eval, Array.getD_eq_getD_getElem?]
    rw [e1]
    have h3 : 3 < a.tmps.size := by omega
    simp [Act.put, Act.eval, Array.getD_eq_getD_getElem?, Array.getElem?_setIfInBounds, h3]
  · generalize hx : (a.put (some 2) (Value.slice none 0 0)).eval (.tmp 0) = x
    have hS2 : S ⟨w, Dof γ, fn.ntmps, fun i => vals.getD i undef, fun t => initG fn.ntmps [F.aT (.arr m k ft)] γ (box t) []⟩ (initA fn.ntmps 0 [F.aT (.arr m k ft)]) ((((a.put (some 2) (.slice none 0 0))).put (some 3) x).put (some 4) (.bool Ad.isNone)) w :=
      ((hS.free 2 _ rfl).free 3 _ rfl).free 4 _ rfl
    have e4 : ((((a.put (some 2) (Value.slice none 0 0))).put (some 3) x).put (some 4) (.bool Ad.isNone)).eval (.tmp 4) = .bool Ad.isNone := by
      have h4 : 4 < a.tmps.size := by omega
      simp [Act.put, Act.eval, Array.getD_eq_getD_getElem?, Array.getElem?_setIfInBounds, h4]
    refine wp_cond e4 ?_
    cases Ad with
    | none =>
      have hk : k = 0 := by
        rcases Nat.eq_zero_or_pos k with h | h
        · exact h
        · obtain ⟨b, off, he, _⟩ := hpos h
          cases he
      refine wp_mono (ret_sound hφ hm (hA hk) hargs hS2) fun e a' w' hq => ?_
      obtain ⟨rfl, hq⟩ := hq
      exact hq
    | some ad =>
      refine wp_skip ?_
      refine wp_mono (ret_sound hφ hm hB hargs hS2) fun e a' w' hq => ?_
      obtain ⟨rfl, hq⟩ := hq
      exact hq
end
end Go.Mach
namespace Go.Mach.F
open Go Go.Mach Go.Proofs.Try
--=set_option maxRecDepth 100000
theorem plain_I (l : List Int) : plainF (atL rowI l) = atL rowI l := by
  funext j k
  unfold plainF atL
  cases l[j]? with
  | none => rfl
  | some x => cases k <;> rfl
theorem plain_B (l : List UInt8) : plainF (atL rowB l) = atL rowB l := by
  funext j k
  unfold plainF atL
  cases l[j]? with
  | none => rfl
  | some x => cases k <;> rfl
theorem plain_Hd (l : List Hd) : plainF (atL Hd.cs l) = atL Hd.cs l := by
  funext j k
  unfold plainF atL
  cases l[j]? with
  | none => rfl
  | some x => rcases k with _ | _ | k <;> rfl
theorem app0 (f g : Nat → Nat → T) : appF 0 f g = g := by
  funext j k
  unfold appF
  rfl
def i_clB : Nat := 166
def ok_clB (l : List UInt8) : Prop := l.length ≤ LM
def ea_clB (l : List UInt8) : List Arg := [aT (eB l)]
def f_clB (l : List UInt8) : List UInt8 := l
noncomputable def e_clB : Ent := ent [] ok_clB ea_clB (fun l => erT 1 (eB l)) f_clB
theorem ea_clB_inj (x y : List UInt8) (h : ea_clB x = ea_clB y) : x = y := by
  simp only [ea_clB, aT, List.cons.injEq, Prod.mk.injEq, true_and, and_true, C.tr.injEq] at h
  exact eB_inj h
theorem dm_clB {l : List UInt8} (h : ok_clB l) : dom ok_clB ea_clB [(0, false, [C.tr false (T.arr 1 l.length (atL rowB l))])] = true := dom_ea (ea := ea_clB) (x := l) h
theorem iv_clB {l : List UInt8} (h : ok_clB l) : inv ok_clB ea_clB [(0, false, [C.tr false (T.arr 1 l.length (atL rowB l))])] = l := inv_ea ea_clB_inj (x := l) h
theorem d_clB (l : List UInt8) : f_clB l = l := rfl
theorem br_clB (l : List UInt8) : bodyR prog (tabS []) [(0, [0]), (1, [0, 16]), (2, [8]), (3, [8])] 0 f166 (sub (bodyOf f166) [1, 1]) [aT (eB l)] = (
 gd (((0 + l.length) * 1).ble 70368744177664 && (0 + l.length).ble 70368744177664) <|
 gd ((0 + l.length).ble (0 + l.length) && true) <|
 gd ((0 + l.length).ble (0 + l.length) && true) <|
 some ([(false, [.tr true (.arr (1) (0 + l.length) (appF 0 (fun j k => T.hole) (plainF (atL rowB l))))])], [(false, [])])) := by kernel_rfl
theorem s_clB : EntOk prog i_clB e_clB := ent_ok ea_clB_inj fun l hl => by
  have hlm := lm
  have hl' : l.length ≤ LM := hl
  have hb := br_clB l
  simp only [Nat.zero_add, ble_d, Nat.le_refl, decide_true, Bool.and_true, gd_true, app0, plain_B] at hb
  rw [decide_eq_true (show l.length * 1 ≤ 70368744177664 by omega), decide_eq_true (show l.length ≤ 70368744177664 by omega)] at hb
  simp only [Bool.and_true, gd_true] at hb
  refine clone_sound (φ := tabS []) tabS_nil mixed (kp := [(0, [0]), (1, [0, 16]), (2, [8]), (3, [8])]) (n := 0) func166 (name_ok (by kernel_rfl)) (hc := rfl) rfl rfl rfl (fun a w K Q h => wp_value rfl h) (fun a w K Q h => wp_value rfl h) (fun a w K Q Ad k c he h => ?_) (by decide) (fun hk => ?_) hb
  · cases Ad with
    | none => exact wp_value (v := .bool true) (w' := w) (by simp only [execOp, he]; kernel_rfl) h
    | some ad => exact wp_value (v := .bool false) (w' := w) (by simp only [execOp, he]; kernel_rfl) h
  · have : l = [] := List.length_eq_zero_iff.1 hk
    subst this
    have ha : bodyR prog (tabS []) [(0, [0]), (1, [0, 16]), (2, [8]), (3, [8])] 0 f166 (sub (bodyOf f166) [1, 0, 1, 0]) [aT (eB [])] = some ([(false, [.tr true (.arr 1 0 fun _ _ => .hole)])], [(false, [])]) := by kernel_rfl
    exact ha
def i_clI : Nat := 82
def ok_clI (l : List Int) : Prop := l.length ≤ LM
def ea_clI (l : List Int) : List Arg := [aT (eI l)]
def f_clI (l : List Int) : List Int := l
noncomputable def e_clI : Ent := ent [] ok_clI ea_clI (fun l => erT 1 (eI l)) f_clI
theorem ea_clI_inj (x y : List Int) (h : ea_clI x = ea_clI y) : x = y := by
  simp only [ea_clI, aT, List.cons.injEq, Prod.mk.injEq, true_and, and_true, C.tr.injEq] at h
  exact eI_inj h
theorem dm_clI {l : List Int} (h : ok_clI l) : dom ok_clI ea_clI [(0, false, [C.tr false (T.arr 1 l.length (atL rowI l))])] = true := dom_ea (ea := ea_clI) (x := l) h
theorem iv_clI {l : List Int} (h : ok_clI l) : inv ok_clI ea_clI [(0, false, [C.tr false (T.arr 1 l.length (atL rowI l))])] = l := inv_ea ea_clI_inj (x := l) h
theorem br_clI (l : List Int) : bodyR prog (tabS []) [(0, [0]), (1, [0, 16]), (2, [8]), (3, [8])] 0 f82 (sub (bodyOf f82) [1, 1]) [aT (eI l)] = (
 gd (((0 + l.length) * 8).ble 70368744177664 && (0 + l.length).ble 70368744177664) <|
 gd ((0 + l.length).ble (0 + l.length) && true) <|
 gd ((0 + l.length).ble (0 + l.length) && true) <|
 some ([(false, [.tr true (.arr (1) (0 + l.length) (appF 0 (fun j k => T.hole) (plainF (atL rowI l))))])], [(false, [])])) := by kernel_rfl
theorem s_clI : EntOk prog i_clI e_clI := ent_ok ea_clI_inj fun l hl => by
  have hlm := lm
  have hl' : l.length ≤ LM := hl
  have hb := br_clI l
  simp only [Nat.zero_add, ble_d, Nat.le_refl, decide_true, Bool.and_true, gd_true, app0, plain_I] at hb
  rw [decide_eq_true (show l.length * 8 ≤ 70368744177664 by omega), decide_eq_true (show l.length ≤ 70368744177664 by omega)] at hb
  simp only [Bool.and_true, gd_true] at hb
  refine clone_sound (φ := tabS []) tabS_nil mixed (kp := [(0, [0]), (1, [0, 16]), (2, [8]), (3, [8])]) (n := 0) func82 (name_ok (by kernel_rfl)) (hc := rfl) rfl rfl rfl (fun a w K Q h => wp_value rfl h) (fun a w K Q h => wp_value rfl h) (fun a w K Q Ad k c he h => ?_) (by decide) (fun hk => ?_) hb
  · cases Ad with
    | none => exact wp_value (v := .bool true) (w' := w) (by simp only [execOp, he]; kernel_rfl) h
    | some ad => exact wp_value (v := .bool false) (w' := w) (by simp only [execOp, he]; kernel_rfl) h
  · have : l = [] := List.length_eq_zero_iff.1 hk
    subst this
    have ha : bodyR prog (tabS []) [(0, [0]), (1, [0, 16]), (2, [8]), (3, [8])] 0 f82 (sub (bodyOf f82) [1, 0, 1, 0]) [aT (eI [])] = some ([(false, [.tr true (.arr 1 0 fun _ _ => .hole)])], [(false, [])]) := by kernel_rfl
    exact ha
end Go.Mach.F
namespace Go.Mach.F
open Go Go.Mach Go.Proofs.Try
theorem rowsT0 {α : Type} (row : α → List T) : rowsT [] = atL row ([] : List α) := by
  funext j k
  simp [rowsT, atL]
theorem app1g {α : Type} (row : α → List T) (out : List α) (x : α) : appF out.length (atL row out) (rowsT [row x]) = atL row (out ++ [x]) := by
  funext j k
  unfold appF
  rw [blt_d, Bool.cond_decide]
  by_cases h : j < out.length
  · rw [if_pos h]
    unfold atL
    rw [List.getElem?_append_left h]
  · rw [if_neg h]
    unfold atL
    rw [List.getElem?_append_right (by omega)]
    obtain ⟨d, hd⟩ : ∃ d, d = j - out.length := ⟨_, rfl⟩
    rw [← hd]
    cases d with
    | zero => rfl
    | succ d => simp [rowsT]
end Go.Mach.F
namespace Go.Mach.F
open Go Go.Mach Go.Proofs.Try
--=set_option maxRecDepth 100000
def zRm : Rm := ⟨⟨0, 0⟩, ⟨0, 0⟩, [], 0, 0, false, 0, [], []⟩
end Go.Mach.F
namespace Go.Mach.F
open Go Go.Mach Go.Proofs.Try
--=set_option maxRecDepth 100000
def i_iHOk : Nat := 127
noncomputable abbrev F_iHOk : Func := f127
def kp_iHOk : List (Nat × List Nat) := [(0, [4, 5, 28, 32, 36]), (1, [8])]
noncomputable def e_iHOk : Ent := inl [] prog (tabS []) kp_iHOk 0 F_iHOk
theorem s_iHOk : EntOk prog i_iHOk e_iHOk := inl_ok tabS_nil mixed (c := bodyOf F_iHOk) func127 (by kernel_rfl) (name_ok (by kernel_rfl))
def i_sHOk : Nat := 122
noncomputable abbrev F_sHOk : Func := f122
def kp_sHOk : List (Nat × List Nat) := [(0, [4, 5, 28, 32, 36]), (1, [8])]
noncomputable def e_sHOk : Ent := inl [] prog (tabS []) kp_sHOk 0 F_sHOk
theorem s_sHOk : EntOk prog i_sHOk e_sHOk := inl_ok tabS_nil mixed (c := bodyOf F_sHOk) func122 (by kernel_rfl) (name_ok (by kernel_rfl))
end Go.Mach.F
namespace Go.Mach.F
open Go Go.Mach Go.Proofs.Try
--=set_option maxRecDepth 100000
def hOk (h : Hd) : Bool := decide (0 ≤ h.slot) && decide (1 ≤ h.gen)
end Go.Mach.F
namespace Go.Mach.F
open Go Go.Mach Go.Proofs.Try
--=set_option maxRecDepth 100000
def i_ihas : Nat := 173
noncomputable abbrev F_ihas : Func := f173
def kp_ihas : List (Nat × List Nat) := [(0, [0, 4, 8, 40, 44, 48, 60, 64, 68, 72, 76]), (1, [24])]
noncomputable def e_ihas : Ent := inl [] prog (tabS [(i_within, e_within)]) kp_ihas 0 F_ihas
theorem s_ihas : EntOk prog i_ihas e_ihas := inl_ok (tabS_cons s_within tabS_nil) mixed (c := bodyOf F_ihas) func173 (by kernel_rfl) (name_ok (by kernel_rfl))
def i_l2There : Nat := 171
noncomputable abbrev F_l2There : Func := f171
def kp_l2There : List (Nat × List Nat) := [(0, [0, 4, 8, 40, 44, 56, 60, 64, 68, 80, 84, 88, 92, 96, 100]), (1, [24])]
noncomputable def e_l2There : Ent := inl [] prog (tabS []) kp_l2There 0 F_l2There
theorem s_l2There : EntOk prog i_l2There e_l2There := inl_ok tabS_nil mixed (c := bodyOf F_l2There) func171 (by kernel_rfl) (name_ok (by kernel_rfl))
end Go.Mach.F
namespace Go.Mach.F
open Go Go.Mach Go.Proofs.Try
--=set_option maxRecDepth 100000
def i_l1In : Nat := 73
noncomputable abbrev F_l1In : Func := f73
def kp_l1In : List (Nat × List Nat) := [(0, [0, 4, 8, 44, 48, 52]), (1, [24])]
noncomputable def e_l1In : Ent := inl [] prog (tabS []) kp_l1In 0 F_l1In
theorem s_l1In : EntOk prog i_l1In e_l1In := inl_ok tabS_nil mixed (c := bodyOf F_l1In) func73 (by kernel_rfl) (name_ok (by kernel_rfl))
end Go.Mach.F
namespace Go.Mach.F
open Go Go.Mach Go.Proofs.Try
--=set_option maxRecDepth 100000
/-- The next ones of a list of children are within int64. -/
def nxI (l : List Nd) : Prop := ∀ x ∈ l, inI x.next
def kidN (l : List Nd) : Nat → Int → List Int
  | 0, _ => []
  | n + 1, f => bif decide (1 ≤ f) && decide (f ≤ (l.length : Int)) then (f - 1) :: kidN l n (nd l (f - 1)).next else []
def kids (l : List Nd) (f : Int) : List Int := kidN l l.length f
def hdAt (l : List Nd) (k : Int) : Hd := bif decide (0 ≤ k) && decide (k < (l.length : Int)) then ⟨k, (nd l k).gen⟩ else ⟨0, 0⟩
def ok_iKid (x : List Nd × Int) : Prop := x.1.length ≤ LM ∧ inI x.2 ∧ nxI x.1
def ea_iKid (x : List Nd × Int) : List Arg := [aT (eL 13 Nd.cs x.1), aI x.2]
def f_iKid (x : List Nd × Int) : List Int := kids x.1 x.2
noncomputable def e_iKid : Ent := ent [] ok_iKid ea_iKid (fun r => erT 2 (eI r)) f_iKid
theorem ea_iKid_inj (x y : List Nd × Int) (h : ea_iKid x = ea_iKid y) : x = y := by
  obtain ⟨l1, f1⟩ := x
  obtain ⟨l2, f2⟩ := y
  simp only [ea_iKid, List.cons.injEq, and_true, true_and] at h
  obtain ⟨e0, e1⟩ := h
  obtain rfl := eL_inj Nd.cs_inj (aT_inj e0)
  obtain rfl := aI_inj e1
  rfl
theorem dm_iKid {l : List Nd} {f : Int} (h : ok_iKid (l, f)) : dom ok_iKid ea_iKid [(0, false, [C.tr false (T.arr 13 l.length (atL Nd.cs l))]), (0, false, [C.tr false (T.int IntKind.i64 f)])] = true := dom_ea (ea := ea_iKid) (x := (l, f)) h
theorem iv_iKid {l : List Nd} {f : Int} (h : ok_iKid (l, f)) : inv ok_iKid ea_iKid [(0, false, [C.tr false (T.arr 13 l.length (atL Nd.cs l))]), (0, false, [C.tr false (T.int IntKind.i64 f)])] = (l, f) := inv_ea ea_iKid_inj (x := (l, f)) h
def i_iKid : Nat := 83
noncomputable abbrev F_iKid : Func := f83
def kp_iKid : List (Nat × List Nat) := [(0, [0, 4]), (1, [0, 4, 20]), (2, [0, 20, 24]), (3, [0, 20, 24, 76]), (4, [0, 20, 24]), (5, [0, 20, 24]), (6, [16])]
def ts_iKid : List Nat := [0, 0]
def st_iKid_1 (l : List Nd) (f : Int) (nx20 : Nat) (fx20 : Nat → Nat → T) (x24 : Int) : St := [(0, ⟨z0, [(false, [.tr false (eL 13 Nd.cs l)])]⟩), (20, ⟨z0, [(false, [.tr true (.arr (1) (nx20) (fx20))])]⟩), (24, ⟨z0, [(false, [.tr true (T.int IntKind.i64 x24)])]⟩)]
def ex_iKid_1_1 (l : List Nd) (f : Int) (nx20 : Nat) (fx20 : Nat → Nat → T) (x24 : Int) : St := [(0, ⟨z0, [(false, [.tr false (eL 13 Nd.cs l)])]⟩), (20, ⟨z0, [(false, [.tr true (.arr (1) (nx20) (fx20))])]⟩), (24, ⟨z0, [(false, [.tr true (T.int IntKind.i64 x24)])]⟩), (76, ⟨z0, []⟩)]
theorem round_iKid_1 (l : List Nd) (f : Int) (nx20 : Nat) (fx20 : Nat → Nat → T) (x24 : Int) (n : Nat) (K : Ex → St → Res) : roundAt prog (tabS [(i_isSlot, e_isSlot)]) kp_iKid F_iKid [1, 1, 0, 1, 0] n (st_iKid_1 l f nx20 fx20 x24) K = (
 bif decide (0 ≤ x24) then
  bif decide (x24 ≤ IntKind.i64.wrap ((↑l.length : Int) - 1)) then
   bif decide ((↑nx20 : Int) < (↑l.length : Int)) then
    gd (nx20.ble nx20 && true) <|
    gd (((nx20 + 1) * 8).ble 70368744177664 && (nx20 + 1).ble 70368744177664) <|
    gd ((nx20 + 1).ble (nx20 + 1) && true) <|
    gd (decide (0 ≤ x24) && (x24.toNat.blt l.length && true)) <|
    gd (T.isI IntKind.i64 (atL Nd.cs l x24.toNat 6)) <|
    K .normal (st_iKid_1 l f (nx20 + 1) (appF nx20 fx20 (plainF (cutT 0 1 (rowsT [[T.int IntKind.i64 x24]])))) (IntKind.i64.wrap ((atL Nd.cs l x24.toNat 6).toI - 1)))
   else
   K (.exit 0) (ex_iKid_1_1 l f nx20 fx20 x24)
  else
  K (.exit 0) (ex_iKid_1_1 l f nx20 fx20 x24)
 else
 K (.exit 0) (ex_iKid_1_1 l f nx20 fx20 x24)) := by kernel_rfl
theorem post_iKid_1_1 (l : List Nd) (f : Int) (nx20 : Nat) (fx20 : Nat → Nat → T) (x24 : Int) (n : Nat) : contAt prog (tabS [(i_isSlot, e_isSlot)]) kp_iKid F_iKid ts_iKid [1, 1, 0, 1, 0] [] n (.exit 0) (ex_iKid_1_1 l f nx20 fx20 x24) = (
 gd (nx20.ble nx20 && true) <|
 gd (nx20.ble nx20 && true) <|
 some ([(false, [.tr true (.arr (1) (nx20) (fx20))])], [(false, []), (false, [])])) := by kernel_rfl
theorem pre_iKid (l : List Nd) (f : Int) (n : Nat) : body prog (tabS [(i_isSlot, e_isSlot)]) kp_iKid n F_iKid [aT (eL 13 Nd.cs l), aI f] = (
 loopAt prog (tabS [(i_isSlot, e_isSlot)]) kp_iKid F_iKid [1, 1, 0, 1, 0] n n (st_iKid_1 l f (0) (rowsT []) (IntKind.i64.wrap (f - 1))) (contAt prog (tabS [(i_isSlot, e_isSlot)]) kp_iKid F_iKid ts_iKid [1, 1, 0, 1, 0] [] n)) := by kernel_rfl
def ok_sKid (x : List Nd × Int) : Prop := x.1.length ≤ LM ∧ inI x.2 ∧ nxI x.1
def ea_sKid (x : List Nd × Int) : List Arg := [aT (eL 13 Nd.cs x.1), aI x.2]
def f_sKid (x : List Nd × Int) : List Int := kids x.1 x.2
noncomputable def e_sKid : Ent := ent [] ok_sKid ea_sKid (fun r => erT 2 (eI r)) f_sKid
theorem ea_sKid_inj (x y : List Nd × Int) (h : ea_sKid x = ea_sKid y) : x = y := by
  obtain ⟨l1, f1⟩ := x
  obtain ⟨l2, f2⟩ := y
  simp only [ea_sKid, List.cons.injEq, and_true, true_and] at h
  obtain ⟨e0, e1⟩ := h
  obtain rfl := eL_inj Nd.cs_inj (aT_inj e0)
  obtain rfl := aI_inj e1
  rfl
theorem dm_sKid {l : List Nd} {f : Int} (h : ok_sKid (l, f)) : dom ok_sKid ea_sKid [(0, false, [C.tr false (T.arr 13 l.length (atL Nd.cs l))]), (0, false, [C.tr false (T.int IntKind.i64 f)])] = true := dom_ea (ea := ea_sKid) (x := (l, f)) h
theorem iv_sKid {l : List Nd} {f : Int} (h : ok_sKid (l, f)) : inv ok_sKid ea_sKid [(0, false, [C.tr false (T.arr 13 l.length (atL Nd.cs l))]), (0, false, [C.tr false (T.int IntKind.i64 f)])] = (l, f) := inv_ea ea_sKid_inj (x := (l, f)) h
def i_sKid : Nat := 75
noncomputable abbrev F_sKid : Func := f75
def kp_sKid : List (Nat × List Nat) := [(0, [0, 4]), (1, [0, 4, 20]), (2, [0, 4, 20, 64]), (3, [0, 4, 20]), (4, [0, 4, 20]), (5, [16])]
def ts_sKid : List Nat := [0, 0]
def st_sKid_1 (l : List Nd) (f : Int) (x4 : Int) (nx20 : Nat) (fx20 : Nat → Nat → T) : St := [(0, ⟨z0, [(false, [.tr false (eL 13 Nd.cs l)])]⟩), (4, ⟨z0, [(false, [.tr true (T.int IntKind.i64 x4)])]⟩), (20, ⟨z0, [(false, [.tr true (.arr (1) (nx20) (fx20))])]⟩)]
def ex_sKid_1_1 (l : List Nd) (f : Int) (x4 : Int) (nx20 : Nat) (fx20 : Nat → Nat → T) : St := [(0, ⟨z0, [(false, [.tr false (eL 13 Nd.cs l)])]⟩), (4, ⟨z0, [(false, [.tr true (T.int IntKind.i64 x4)])]⟩), (20, ⟨z0, [(false, [.tr true (.arr (1) (nx20) (fx20))])]⟩), (64, ⟨z0, []⟩)]
theorem round_sKid_1 (l : List Nd) (f : Int) (x4 : Int) (nx20 : Nat) (fx20 : Nat → Nat → T) (n : Nat) (K : Ex → St → Res) : roundAt prog (tabS [(i_l9Place, e_l9Place)]) kp_sKid F_sKid [1, 1, 0, 0] n (st_sKid_1 l f x4 nx20 fx20) K = (
 bif decide (1 ≤ x4) then
  bif decide (x4 ≤ (↑l.length : Int)) then
   bif decide ((↑nx20 : Int) < (↑l.length : Int)) then
    gd (nx20.ble nx20 && true) <|
    gd (((nx20 + 1) * 8).ble 70368744177664 && (nx20 + 1).ble 70368744177664) <|
    gd ((nx20 + 1).ble (nx20 + 1) && true) <|
    gd (decide (0 ≤ IntKind.i64.wrap (x4 - 1)) && ((IntKind.i64.wrap (x4 - 1)).toNat.blt l.length && true)) <|
    gd (T.isI IntKind.i64 (atL Nd.cs l (IntKind.i64.wrap (x4 - 1)).toNat 6)) <|
    K .normal (st_sKid_1 l f ((atL Nd.cs l (IntKind.i64.wrap (x4 - 1)).toNat 6).toI) (nx20 + 1) (appF nx20 fx20 (plainF (cutT 0 1 (rowsT [[T.int IntKind.i64 (IntKind.i64.wrap (x4 - 1))]])))))
   else
   K (.exit 0) (ex_sKid_1_1 l f x4 nx20 fx20)
  else
  K (.exit 0) (ex_sKid_1_1 l f x4 nx20 fx20)
 else
 K (.exit 0) (ex_sKid_1_1 l f x4 nx20 fx20)) := by kernel_rfl
theorem post_sKid_1_1 (l : List Nd) (f : Int) (x4 : Int) (nx20 : Nat) (fx20 : Nat → Nat → T) (n : Nat) : contAt prog (tabS [(i_l9Place, e_l9Place)]) kp_sKid F_sKid ts_sKid [1, 1, 0, 0] [] n (.exit 0) (ex_sKid_1_1 l f x4 nx20 fx20) = (
 gd (nx20.ble nx20 && true) <|
 gd (nx20.ble nx20 && true) <|
 some ([(false, [.tr true (.arr (1) (nx20) (fx20))])], [(false, []), (false, [])])) := by kernel_rfl
theorem pre_sKid (l : List Nd) (f : Int) (n : Nat) : body prog (tabS [(i_l9Place, e_l9Place)]) kp_sKid n F_sKid [aT (eL 13 Nd.cs l), aI f] = (
 loopAt prog (tabS [(i_l9Place, e_l9Place)]) kp_sKid F_sKid [1, 1, 0, 0] n n (st_sKid_1 l f (f) (0) (rowsT [])) (contAt prog (tabS [(i_l9Place, e_l9Place)]) kp_sKid F_sKid ts_sKid [1, 1, 0, 0] [] n)) := by kernel_rfl
def ok_iHdAt (x : List Nd × Int) : Prop := x.1.length ≤ LM ∧ inI x.2
def ea_iHdAt (x : List Nd × Int) : List Arg := [aT (eL 13 Nd.cs x.1), aI x.2]
def f_iHdAt (x : List Nd × Int) : Hd := hdAt x.1 x.2
noncomputable def e_iHdAt : Ent := ent [] ok_iHdAt ea_iHdAt (fun r => erR 2 r.cs) f_iHdAt
theorem ea_iHdAt_inj (x y : List Nd × Int) (h : ea_iHdAt x = ea_iHdAt y) : x = y := by
  obtain ⟨l1, k1⟩ := x
  obtain ⟨l2, k2⟩ := y
  simp only [ea_iHdAt, List.cons.injEq, and_true, true_and] at h
  obtain ⟨e0, e1⟩ := h
  obtain rfl := eL_inj Nd.cs_inj (aT_inj e0)
  obtain rfl := aI_inj e1
  rfl
theorem dm_iHdAt {l : List Nd} {k : Int} (h : ok_iHdAt (l, k)) : dom ok_iHdAt ea_iHdAt [(0, false, [C.tr false (T.arr 13 l.length (atL Nd.cs l))]), (0, false, [C.tr false (T.int IntKind.i64 k)])] = true := dom_ea (ea := ea_iHdAt) (x := (l, k)) h
theorem iv_iHdAt {l : List Nd} {k : Int} (h : ok_iHdAt (l, k)) : inv ok_iHdAt ea_iHdAt [(0, false, [C.tr false (T.arr 13 l.length (atL Nd.cs l))]), (0, false, [C.tr false (T.int IntKind.i64 k)])] = (l, k) := inv_ea ea_iHdAt_inj (x := (l, k)) h
def i_iHdAt : Nat := 81
noncomputable abbrev F_iHdAt : Func := f81
def kp_iHdAt : List (Nat × List Nat) := [(0, [0, 4, 16, 17]), (1, [0, 4, 16, 17, 32]), (2, [16, 17]), (3, [16, 17])]
theorem pre_iHdAt (l : List Nd) (k : Int) (n : Nat) : body prog (tabS [(i_isSlot, e_isSlot)]) kp_iHdAt n F_iHdAt [aT (eL 13 Nd.cs l), aI k] = (
 bif decide (0 ≤ k) then
  bif !decide (k ≤ IntKind.i64.wrap ((↑l.length : Int) - 1)) then
   some ([(true, [.tr true (T.int IntKind.i64 0), .tr true (T.int IntKind.i64 0)])], [(false, []), (false, [])])
  else
  gd (decide (0 ≤ k) && (k.toNat.blt l.length && true)) <|
  gd (T.isI IntKind.i64 (atL Nd.cs l k.toNat 1)) <|
  some ([(true, [.tr true (T.int IntKind.i64 k), .tr true (T.int IntKind.i64 (atL Nd.cs l k.toNat 1).toI)])], [(false, []), (false, [])])
 else
 some ([(true, [.tr true (T.int IntKind.i64 0), .tr true (T.int IntKind.i64 0)])], [(false, []), (false, [])])) := by kernel_rfl
def ok_sHdAt (x : List Nd × Int) : Prop := x.1.length ≤ LM ∧ inI x.2
def ea_sHdAt (x : List Nd × Int) : List Arg := [aT (eL 13 Nd.cs x.1), aI x.2]
def f_sHdAt (x : List Nd × Int) : Hd := hdAt x.1 x.2
noncomputable def e_sHdAt : Ent := ent [] ok_sHdAt ea_sHdAt (fun r => erR 2 r.cs) f_sHdAt
theorem ea_sHdAt_inj (x y : List Nd × Int) (h : ea_sHdAt x = ea_sHdAt y) : x = y := by
  obtain ⟨l1, k1⟩ := x
  obtain ⟨l2, k2⟩ := y
  simp only [ea_sHdAt, List.cons.injEq, and_true, true_and] at h
  obtain ⟨e0, e1⟩ := h
  obtain rfl := eL_inj Nd.cs_inj (aT_inj e0)
  obtain rfl := aI_inj e1
  rfl
theorem dm_sHdAt {l : List Nd} {k : Int} (h : ok_sHdAt (l, k)) : dom ok_sHdAt ea_sHdAt [(0, false, [C.tr false (T.arr 13 l.length (atL Nd.cs l))]), (0, false, [C.tr false (T.int IntKind.i64 k)])] = true := dom_ea (ea := ea_sHdAt) (x := (l, k)) h
theorem iv_sHdAt {l : List Nd} {k : Int} (h : ok_sHdAt (l, k)) : inv ok_sHdAt ea_sHdAt [(0, false, [C.tr false (T.arr 13 l.length (atL Nd.cs l))]), (0, false, [C.tr false (T.int IntKind.i64 k)])] = (l, k) := inv_ea ea_sHdAt_inj (x := (l, k)) h
def i_sHdAt : Nat := 74
noncomputable abbrev F_sHdAt : Func := f74
def kp_sHdAt : List (Nat × List Nat) := [(0, [0, 4, 16, 17]), (1, [0, 4, 16, 17, 40]), (2, [16, 17]), (3, [16, 17])]
theorem pre_sHdAt (l : List Nd) (k : Int) (n : Nat) : body prog (tabS [(i_l1In, e_l1In)]) kp_sHdAt n F_sHdAt [aT (eL 13 Nd.cs l), aI k] = (
 bif decide (0 ≤ k) then
  bif !decide (k ≤ IntKind.i64.wrap ((↑l.length : Int) - 1)) then
   some ([(true, [.tr true (T.int IntKind.i64 0), .tr true (T.int IntKind.i64 0)])], [(false, []), (false, [])])
  else
  gd (decide (0 ≤ k) && (k.toNat.blt l.length && true)) <|
  gd (T.isI IntKind.i64 (atL Nd.cs l k.toNat 1)) <|
  some ([(true, [.tr true (T.int IntKind.i64 k), .tr true (T.int IntKind.i64 (atL Nd.cs l k.toNat 1).toI)])], [(false, []), (false, [])])
 else
 some ([(true, [.tr true (T.int IntKind.i64 0), .tr true (T.int IntKind.i64 0)])], [(false, []), (false, [])])) := by kernel_rfl
end Go.Mach.F
namespace Go.Mach.F
open Go Go.Mach Go.Proofs.Try
theorem kidN_out {l : List Nd} {f : Int} (h : ¬ (1 ≤ f ∧ f ≤ (l.length : Int))) (n : Nat) : kidN l n f = [] := by
  cases n with
  | zero => rfl
  | succ n =>
    unfold kidN
    by_cases h1 : 1 ≤ f
    · rw [decide_eq_false (fun e => h ⟨h1, e⟩), Bool.and_false, cond_false]
    · rw [decide_eq_false h1, Bool.false_and, cond_false]
theorem nd_getk {l : List Nd} {k : Int} (h : k.toNat < l.length) : l[k.toNat]? = some (nd l k) := by
  unfold nd
  rw [List.getD_eq_getElem?_getD, List.getElem?_eq_getElem h]
  rfl
theorem nd_in {l : List Nd} {k : Int} (h : k.toNat < l.length) : nd l k ∈ l := List.mem_of_getElem? (nd_getk h)
theorem loop_iKid (l : List Nd) (f0 : Int) (hl : l.length ≤ LM) (hx : nxI l) (n mm : Nat) : ∀ (r : Nat) (f : Int) (out : List Int), inI f → out.length + r = l.length →
    loopAt prog (tabS [(i_isSlot, e_isSlot)]) kp_iKid F_iKid [1, 1, 0, 1, 0] n (r + 1 + mm) (st_iKid_1 l f0 out.length (atL rowI out) (IntKind.i64.wrap (f - 1))) (contAt prog (tabS [(i_isSlot, e_isSlot)]) kp_iKid F_iKid ts_iKid [1, 1, 0, 1, 0] [] n) = some (erT 2 (eI (out ++ kidN l r f))) := by
  have hlm := lm
  have fin : ∀ (f : Int) (out : List Int), contAt prog (tabS [(i_isSlot, e_isSlot)]) kp_iKid F_iKid ts_iKid [1, 1, 0, 1, 0] [] n (.exit 0) (ex_iKid_1_1 l f0 out.length (atL rowI out) (IntKind.i64.wrap (f - 1))) = some (erT 2 (eI (out ++ []))) := fun f out => by
    rw [post_iKid_1_1, List.append_nil]
    simp only [ble_d, Nat.le_refl, decide_true, Bool.and_true, gd_true]
    rfl
  intro r
  induction r with
  | zero =>
    intro f out hk hr
    rw [show 0 + 1 + mm = mm + 1 from by omega, loopAt_succ, round_iKid_1]
    simp only [lt_d, decide_eq_false (show ¬ out.length < l.length by omega), cond_false, Bool.cond_self]
    exact fin f out
  | succ r ih =>
    intro f out hk hr
    rw [show r + 1 + 1 + mm = (r + 1 + mm) + 1 from by omega, loopAt_succ, round_iKid_1]
    have hk' := hk
    unfold inI at hk'
    have w1 : IntKind.i64.wrap ((l.length : Int) - 1) = (l.length : Int) - 1 := by rw [IntKind.wrap_i64]; omega
    by_cases h : 1 ≤ f ∧ f ≤ (l.length : Int)
    · have w2 : IntKind.i64.wrap (f - 1) = f - 1 := by rw [IntKind.wrap_i64]; omega
      have hb : (f - 1).toNat < l.length := by omega
      have hx1 := nd_getk hb
      have h0 : 0 ≤ f - 1 := by omega
      have h1 : f - 1 ≤ (l.length : Int) - 1 := by omega
      have h2 := h.1
      have h3 := h.2
      have hs : (out.length + 1) * 8 ≤ 70368744177664 := by omega
      have hs2 : out.length + 1 ≤ 70368744177664 := by omega
      have ho : out.length < l.length := by omega
      have e3 : kidN l (r + 1) f = (f - 1) :: kidN l r (nd l (f - 1)).next := by
        simp only [kidN, decide_eq_true h2, decide_eq_true h3, Bool.and_self, cond_true]
      simp only [lt_d, ge0_d, Int.toNat_natCast, blt_d, ble_self, beq_self, decide_true, cond_true, Bool.and_self, Bool.and_true, Bool.true_and, gd_true, Nat.zero_add, List.getD_cons_zero, List.getD_cons_succ, isI_int, toI_int, isB_bool, toB_bool, eL_T, arr_ln, arr_fn, arr_wd, arr_is, arr_get, w1, w2, ble_d, h0, h1, h2, h3, hb, ho, hs, hs2, Nat.le_refl, atL_of hx1, Nd.cs, app1]
      rw [e3]
      have := ih (nd l (f - 1)).next (out ++ [f - 1]) (hx _ (nd_in hb)) (by rw [List.length_append, List.length_singleton]; omega)
      rw [List.append_assoc, List.length_append, List.length_singleton] at this
      exact this
    · rw [kidN_out h]
      by_cases h0 : 0 ≤ IntKind.i64.wrap (f - 1)
      · have h1 : ¬ IntKind.i64.wrap (f - 1) ≤ (l.length : Int) - 1 := by rw [IntKind.wrap_i64] at h0 ⊢; omega
        simp only [w1, h0, h1, decide_true, decide_false, cond_true, cond_false]
        exact fin f out
      · simp only [h0, decide_false, cond_false]
        exact fin f out
theorem body_iKid (l : List Nd) (f : Int) (h : ok_iKid (l, f)) : body prog (tabS [(i_isSlot, e_isSlot)]) kp_iKid (l.length + 1) F_iKid (ea_iKid (l, f)) = some (erT 2 (eI (f_iKid (l, f)))) := by
  unfold ea_iKid f_iKid kids
  dsimp only
  rw [pre_iKid, rowsT0 rowI]
  have := loop_iKid l f h.1 h.2.2 (l.length + 1) 0 l.length f [] h.2.1 (by simp)
  rw [List.nil_append] at this
  exact this
theorem s_iKid : EntOk prog i_iKid e_iKid := ent_ok ea_iKid_inj fun x hx =>
  body_sound (φ := (tabS [(i_isSlot, e_isSlot)])) (tabS_cons s_isSlot tabS_nil) mixed (kp := kp_iKid) (n := x.1.length + 1) func83 (c := bodyOf F_iKid) (by kernel_rfl) (body_iKid x.1 x.2 hx) (name_ok (by kernel_rfl))
theorem loop_sKid (l : List Nd) (f0 : Int) (hl : l.length ≤ LM) (hx : nxI l) (n mm : Nat) : ∀ (r : Nat) (f : Int) (out : List Int), inI f → out.length + r = l.length →
    loopAt prog (tabS [(i_l9Place, e_l9Place)]) kp_sKid F_sKid [1, 1, 0, 0] n (r + 1 + mm) (st_sKid_1 l f0 f out.length (atL rowI out)) (contAt prog (tabS [(i_l9Place, e_l9Place)]) kp_sKid F_sKid ts_sKid [1, 1, 0, 0] [] n) = some (erT 2 (eI (out ++ kidN l r f))) := by
  have hlm := lm
  have fin : ∀ (f : Int) (out : List Int), contAt prog (tabS [(i_l9Place, e_l9Place)]) kp_sKid F_sKid ts_sKid [1, 1, 0, 0] [] n (.exit 0) (ex_sKid_1_1 l f0 f out.length (atL rowI out)) = some (erT 2 (eI (out ++ []))) := fun f out => by
    rw [post_sKid_1_1, List.append_nil]
    simp only [ble_d, Nat.le_refl, decide_true, Bool.and_true, gd_true]
    rfl
  intro r
  induction r with
  | zero =>
    intro f out hk hr
    rw [show 0 + 1 + mm = mm + 1 from by omega, loopAt_succ, round_sKid_1]
    simp only [lt_d, decide_eq_false (show ¬ out.length < l.length by omega), cond_false, Bool.cond_self]
    exact fin f out
  | succ r ih =>
    intro f out hk hr
    rw [show r + 1 + 1 + mm = (r + 1 + mm) + 1 from by omega, loopAt_succ, round_sKid_1]
    have hk' := hk
    unfold inI at hk'
    have w1 : IntKind.i64.wrap ((l.length : Int) - 1) = (l.length : Int) - 1 := by rw [IntKind.wrap_i64]; omega
    by_cases h : 1 ≤ f ∧ f ≤ (l.length : Int)
    · have w2 : IntKind.i64.wrap (f - 1) = f - 1 := by rw [IntKind.wrap_i64]; omega
      have hb : (f - 1).toNat < l.length := by omega
      have hx1 := nd_getk hb
      have h0 : 0 ≤ f - 1 := by omega
      have h1 : f - 1 ≤ (l.length : Int) - 1 := by omega
      have h2 := h.1
      have h3 := h.2
      have hs : (out.length + 1) * 8 ≤ 70368744177664 := by omega
      have hs2 : out.length + 1 ≤ 70368744177664 := by omega
      have ho : out.length < l.length := by omega
      have e3 : kidN l (r + 1) f = (f - 1) :: kidN l r (nd l (f - 1)).next := by
        simp only [kidN, decide_eq_true h2, decide_eq_true h3, Bool.and_self, cond_true]
      simp only [lt_d, ge0_d, Int.toNat_natCast, blt_d, ble_self, beq_self, decide_true, cond_true, Bool.and_self, Bool.and_true, Bool.true_and, gd_true, Nat.zero_add, List.getD_cons_zero, List.getD_cons_succ, isI_int, toI_int, isB_bool, toB_bool, eL_T, arr_ln, arr_fn, arr_wd, arr_is, arr_get, w1, w2, ble_d, h0, h1, h2, h3, hb, ho, hs, hs2, Nat.le_refl, atL_of hx1, Nd.cs, app1]
      rw [e3]
      have := ih (nd l (f - 1)).next (out ++ [f - 1]) (hx _ (nd_in hb)) (by rw [List.length_append, List.length_singleton]; omega)
      rw [List.append_assoc, List.length_append, List.length_singleton] at this
      exact this
    · rw [kidN_out h]
      by_cases h0 : 1 ≤ f
      · have h1 : ¬ f ≤ (l.length : Int) := fun e => h ⟨h0, e⟩
        simp only [h0, h1, decide_true, decide_false, cond_true, cond_false]
        exact fin f out
      · simp only [h0, decide_false, cond_false]
        exact fin f out
theorem body_sKid (l : List Nd) (f : Int) (h : ok_sKid (l, f)) : body prog (tabS [(i_l9Place, e_l9Place)]) kp_sKid (l.length + 1) F_sKid (ea_sKid (l, f)) = some (erT 2 (eI (f_sKid (l, f)))) := by
  unfold ea_sKid f_sKid kids
  dsimp only
  rw [pre_sKid, rowsT0 rowI]
  have := loop_sKid l f h.1 h.2.2 (l.length + 1) 0 l.length f [] h.2.1 (by simp)
  rw [List.nil_append] at this
  exact this
theorem s_sKid : EntOk prog i_sKid e_sKid := ent_ok ea_sKid_inj fun x hx =>
  body_sound (φ := (tabS [(i_l9Place, e_l9Place)])) (tabS_cons s_l9Place tabS_nil) mixed (kp := kp_sKid) (n := x.1.length + 1) func75 (c := bodyOf F_sKid) (by kernel_rfl) (body_sKid x.1 x.2 hx) (name_ok (by kernel_rfl))
theorem body_iHdAt (l : List Nd) (k : Int) (n : Nat) (h : ok_iHdAt (l, k)) : body prog (tabS [(i_isSlot, e_isSlot)]) kp_iHdAt n F_iHdAt (ea_iHdAt (l, k)) = some (erR 2 (f_iHdAt (l, k)).cs) := by
  have hlm := lm
  have hl : l.length ≤ LM := h.1
  unfold ea_iHdAt f_iHdAt hdAt
  dsimp only
  rw [pre_iHdAt]
  have w1 : IntKind.i64.wrap ((l.length : Int) - 1) = (l.length : Int) - 1 := by rw [IntKind.wrap_i64]; omega
  by_cases h0 : 0 ≤ k
  · by_cases h1 : k < (l.length : Int)
    · have h2 : k ≤ (l.length : Int) - 1 := by omega
      have hb : k.toNat < l.length := by omega
      simp only [lt_d, ge0_d, Int.toNat_natCast, blt_d, ble_self, beq_self, decide_true, cond_true, Bool.and_self, Bool.and_true, Bool.true_and, gd_true, Nat.zero_add, List.getD_cons_zero, List.getD_cons_succ, isI_int, toI_int, isB_bool, toB_bool, eL_T, arr_ln, arr_fn, arr_wd, arr_is, arr_get, w1, h0, h1, h2, hb, atL_of (nd_getk hb), Nd.cs, Bool.not_true, cond_false]
      rfl
    · have h2 : ¬ k ≤ (l.length : Int) - 1 := by omega
      simp only [w1, h0, h1, h2, decide_true, decide_false, cond_true, cond_false, Bool.not_false, Bool.and_false]
      rfl
  · simp only [h0, decide_false, cond_false, Bool.false_and]
    rfl
theorem s_iHdAt : EntOk prog i_iHdAt e_iHdAt := ent_ok ea_iHdAt_inj fun x hx =>
  body_sound (φ := (tabS [(i_isSlot, e_isSlot)])) (tabS_cons s_isSlot tabS_nil) mixed (kp := kp_iHdAt) (n := 0) func81 (c := bodyOf F_iHdAt) (by kernel_rfl) (body_iHdAt x.1 x.2 (0) hx) (name_ok (by kernel_rfl))
theorem body_sHdAt (l : List Nd) (k : Int) (n : Nat) (h : ok_sHdAt (l, k)) : body prog (tabS [(i_l1In, e_l1In)]) kp_sHdAt n F_sHdAt (ea_sHdAt (l, k)) = some (erR 2 (f_sHdAt (l, k)).cs) := by
  have hlm := lm
  have hl : l.length ≤ LM := h.1
  unfold ea_sHdAt f_sHdAt hdAt
  dsimp only
  rw [pre_sHdAt]
  have w1 : IntKind.i64.wrap ((l.length : Int) - 1) = (l.length : Int) - 1 := by rw [IntKind.wrap_i64]; omega
  by_cases h0 : 0 ≤ k
  · by_cases h1 : k < (l.length : Int)
    · have h2 : k ≤ (l.length : Int) - 1 := by omega
      have hb : k.toNat < l.length := by omega
      simp only [lt_d, ge0_d, Int.toNat_natCast, blt_d, ble_self, beq_self, decide_true, cond_true, Bool.and_self, Bool.and_true, Bool.true_and, gd_true, Nat.zero_add, List.getD_cons_zero, List.getD_cons_succ, isI_int, toI_int, isB_bool, toB_bool, eL_T, arr_ln, arr_fn, arr_wd, arr_is, arr_get, w1, h0, h1, h2, hb, atL_of (nd_getk hb), Nd.cs, Bool.not_true, cond_false]
      rfl
    · have h2 : ¬ k ≤ (l.length : Int) - 1 := by omega
      simp only [w1, h0, h1, h2, decide_true, decide_false, cond_true, cond_false, Bool.not_false, Bool.and_false]
      rfl
  · simp only [h0, decide_false, cond_false, Bool.false_and]
    rfl
theorem s_sHdAt : EntOk prog i_sHdAt e_sHdAt := ent_ok ea_sHdAt_inj fun x hx =>
  body_sound (φ := (tabS [(i_l1In, e_l1In)])) (tabS_cons s_l1In tabS_nil) mixed (kp := kp_sHdAt) (n := 0) func74 (c := bodyOf F_sHdAt) (by kernel_rfl) (body_sHdAt x.1 x.2 (0) hx) (name_ok (by kernel_rfl))
end Go.Mach.F
namespace Go.Mach.F
open Go Go.Mach Go.Proofs.Try
--=set_option maxRecDepth 100000
def gat (l : List UInt8) (k c : Int) : List UInt8 × Bool := bif ((decide (0 ≤ c) && decide (c ≤ (l.length : Int))) && (decide (0 ≤ k) && decide (k ≤ (l.length : Int) - c))) then ((l.drop k.toNat).take c.toNat, true) else ([], false)
def ok_iGetAt (x : List UInt8 × Int × Int) : Prop := x.1.length ≤ LM
def ea_iGetAt (x : List UInt8 × Int × Int) : List Arg := [aT (eB x.1), aI x.2.1, aI x.2.2]
def f_iGetAt (x : List UInt8 × Int × Int) : List UInt8 × Bool := gat x.1 x.2.1 x.2.2
noncomputable def e_iGetAt : Ent := ent [] ok_iGetAt ea_iGetAt (fun (x : List UInt8 × Bool) => ([oT (eB x.1), oT (.bool x.2)], [nul, nul, nul])) f_iGetAt
theorem ea_iGetAt_inj (x y : List UInt8 × Int × Int) (h : ea_iGetAt x = ea_iGetAt y) : x = y := by
  obtain ⟨l1, k1, c1⟩ := x
  obtain ⟨l2, k2, c2⟩ := y
  simp only [ea_iGetAt, List.cons.injEq, and_true, true_and] at h
  obtain ⟨e0, e1, e2⟩ := h
  obtain rfl := eB_inj (aT_inj e0)
  obtain rfl := aI_inj e1
  obtain rfl := aI_inj e2
  rfl
theorem dm_iGetAt {l : List UInt8} {k : Int} {c : Int} (h : ok_iGetAt (l, k, c)) : dom ok_iGetAt ea_iGetAt [(0, false, [C.tr false (T.arr 1 l.length (atL rowB l))]), (0, false, [C.tr false (T.int IntKind.i64 k)]), (0, false, [C.tr false (T.int IntKind.i64 c)])] = true := dom_ea (ea := ea_iGetAt) (x := (l, k, c)) h
theorem iv_iGetAt {l : List UInt8} {k : Int} {c : Int} (h : ok_iGetAt (l, k, c)) : inv ok_iGetAt ea_iGetAt [(0, false, [C.tr false (T.arr 1 l.length (atL rowB l))]), (0, false, [C.tr false (T.int IntKind.i64 k)]), (0, false, [C.tr false (T.int IntKind.i64 c)])] = (l, k, c) := inv_ea ea_iGetAt_inj (x := (l, k, c)) h
def i_iGetAt : Nat := 143
noncomputable abbrev F_iGetAt : Func := f143
def kp_iGetAt : List (Nat × List Nat) := [(0, [0, 4, 8]), (1, [0, 4, 8, 52]), (2, [24, 28]), (3, [24, 28])]
theorem pre_iGetAt (l : List UInt8) (k : Int) (c : Int) (n : Nat) : body prog (tabS [(i_ihas, e_ihas), (i_clB, e_clB)]) kp_iGetAt n F_iGetAt [aT (eB l), aI k, aI c] = (
 bif decide (0 ≤ c) then
  bif decide (c ≤ (↑l.length : Int)) then
   bif decide (0 ≤ k) then
    bif !decide (k ≤ IntKind.i64.wrap ((↑l.length : Int) - c)) then
     some ([(false, [.tr true (.arr (1) (0) (fun x x_1 => T.hole))]), (false, [.tr true (T.bool false)])], [(false, []), (false, []), (false, [])])
    else
    gd (decide (0 ≤ k) &&
  (decide (k ≤ IntKind.i64.wrap (k + c)) && decide (IntKind.i64.wrap (k + c) ≤ (↑l.length : Int)))) <|
    entK ok_clB ea_clB (f_clB) [(0, false,
    [C.tr false
        (T.arr 1 ((IntKind.i64.wrap (k + c)).toNat - k.toNat)
          (cutT k.toNat ((IntKind.i64.wrap (k + c)).toNat - k.toNat) (atL rowB l)))])] fun (r1 : List UInt8) =>
    gd (r1.length.ble r1.length && true) <|
    gd (r1.length.ble r1.length && true) <|
    some ([(false, [.tr true (.arr (1) (r1.length) (atL rowB r1))]), (false, [.tr true (T.bool true)])], [(false, []), (false, []), (false, [])])
   else
   some ([(false, [.tr true (.arr (1) (0) (fun x x_1 => T.hole))]), (false, [.tr true (T.bool false)])], [(false, []), (false, []), (false, [])])
  else
  some ([(false, [.tr true (.arr (1) (0) (fun x x_1 => T.hole))]), (false, [.tr true (T.bool false)])], [(false, []), (false, []), (false, [])])
 else
 some ([(false, [.tr true (.arr (1) (0) (fun x x_1 => T.hole))]), (false, [.tr true (T.bool false)])], [(false, []), (false, []), (false, [])])) := by kernel_rfl
def ok_sGetAt (x : List UInt8 × Int × Int) : Prop := x.1.length ≤ LM
def ea_sGetAt (x : List UInt8 × Int × Int) : List Arg := [aT (eB x.1), aI x.2.1, aI x.2.2]
def f_sGetAt (x : List UInt8 × Int × Int) : List UInt8 × Bool := gat x.1 x.2.1 x.2.2
noncomputable def e_sGetAt : Ent := ent [] ok_sGetAt ea_sGetAt (fun (x : List UInt8 × Bool) => ([oT (eB x.1), oT (.bool x.2)], [nul, nul, nul])) f_sGetAt
theorem ea_sGetAt_inj (x y : List UInt8 × Int × Int) (h : ea_sGetAt x = ea_sGetAt y) : x = y := by
  obtain ⟨l1, k1, c1⟩ := x
  obtain ⟨l2, k2, c2⟩ := y
  simp only [ea_sGetAt, List.cons.injEq, and_true, true_and] at h
  obtain ⟨e0, e1, e2⟩ := h
  obtain rfl := eB_inj (aT_inj e0)
  obtain rfl := aI_inj e1
  obtain rfl := aI_inj e2
  rfl
theorem dm_sGetAt {l : List UInt8} {k : Int} {c : Int} (h : ok_sGetAt (l, k, c)) : dom ok_sGetAt ea_sGetAt [(0, false, [C.tr false (T.arr 1 l.length (atL rowB l))]), (0, false, [C.tr false (T.int IntKind.i64 k)]), (0, false, [C.tr false (T.int IntKind.i64 c)])] = true := dom_ea (ea := ea_sGetAt) (x := (l, k, c)) h
theorem iv_sGetAt {l : List UInt8} {k : Int} {c : Int} (h : ok_sGetAt (l, k, c)) : inv ok_sGetAt ea_sGetAt [(0, false, [C.tr false (T.arr 1 l.length (atL rowB l))]), (0, false, [C.tr false (T.int IntKind.i64 k)]), (0, false, [C.tr false (T.int IntKind.i64 c)])] = (l, k, c) := inv_ea ea_sGetAt_inj (x := (l, k, c)) h
def i_sGetAt : Nat := 137
noncomputable abbrev F_sGetAt : Func := f137
def kp_sGetAt : List (Nat × List Nat) := [(0, [0, 4, 8]), (1, [0, 4, 8, 48]), (2, [24, 28]), (3, [24, 28])]
theorem pre_sGetAt (l : List UInt8) (k : Int) (c : Int) (n : Nat) : body prog (tabS [(i_l2There, e_l2There)]) kp_sGetAt n F_sGetAt [aT (eB l), aI k, aI c] = (
 bif decide (0 ≤ k) then
  bif decide (0 ≤ c) then
   bif decide (k ≤ (↑l.length : Int)) then
    bif !decide (c ≤ IntKind.i64.wrap ((↑l.length : Int) - k)) then
     some ([(false, [.tr true (.arr (1) (0) (rowsT []))]), (false, [.tr true (T.bool false)])], [(false, []), (false, []), (false, [])])
    else
    gd (decide (0 ≤ k) &&
  (decide (k ≤ IntKind.i64.wrap (k + c)) && decide (IntKind.i64.wrap (k + c) ≤ (↑l.length : Int)))) <|
    gd (((0 + ((IntKind.i64.wrap (k + c)).toNat - k.toNat)) * 1).ble 70368744177664 &&
  (0 + ((IntKind.i64.wrap (k + c)).toNat - k.toNat)).ble 70368744177664) <|
    gd ((0 + ((IntKind.i64.wrap (k + c)).toNat - k.toNat)).ble (0 + ((IntKind.i64.wrap (k + c)).toNat - k.toNat)) && true) <|
    gd ((0 + ((IntKind.i64.wrap (k + c)).toNat - k.toNat)).ble (0 + ((IntKind.i64.wrap (k + c)).toNat - k.toNat)) && true) <|
    some ([(false, [.tr true (.arr (1) (0 + ((IntKind.i64.wrap (k + c)).toNat - k.toNat)) (appF 0 (rowsT []) (plainF (cutT k.toNat ((IntKind.i64.wrap (k + c)).toNat - k.toNat) (atL rowB l)))))]), (false, [.tr true (T.bool true)])], [(false, []), (false, []), (false, [])])
   else
   some ([(false, [.tr true (.arr (1) (0) (rowsT []))]), (false, [.tr true (T.bool false)])], [(false, []), (false, []), (false, [])])
  else
  some ([(false, [.tr true (.arr (1) (0) (rowsT []))]), (false, [.tr true (T.bool false)])], [(false, []), (false, []), (false, [])])
 else
 some ([(false, [.tr true (.arr (1) (0) (rowsT []))]), (false, [.tr true (T.bool false)])], [(false, []), (false, []), (false, [])])) := by kernel_rfl
end Go.Mach.F
namespace Go.Mach.F
open Go Go.Mach Go.Proofs.Try
theorem gat_false {l : List UInt8} {k c : Int} (h1 : ¬ (0 ≤ c ∧ c ≤ (l.length : Int) ∧ 0 ≤ k ∧ k ≤ (l.length : Int) - c)) : ((decide (0 ≤ c) && decide (c ≤ (l.length : Int))) && (decide (0 ≤ k) && decide (k ≤ (l.length : Int) - c))) = false := by
  cases hb : ((decide (0 ≤ c) && decide (c ≤ (l.length : Int))) && (decide (0 ≤ k) && decide (k ≤ (l.length : Int) - c))) with
  | false => rfl
  | true =>
    simp only [Bool.and_eq_true, decide_eq_true_eq] at hb
    exact absurd ⟨hb.1.1, hb.1.2, hb.2.1, hb.2.2⟩ h1
theorem body_iGetAt (l : List UInt8) (k c : Int) (n : Nat) (h : ok_iGetAt (l, k, c)) : body prog (tabS [(i_ihas, e_ihas), (i_clB, e_clB)]) kp_iGetAt n F_iGetAt (ea_iGetAt (l, k, c)) = some ([oT (eB (f_iGetAt (l, k, c)).1), oT (.bool (f_iGetAt (l, k, c)).2)], [nul, nul, nul]) := by
  have hlm := lm
  have hl : l.length ≤ LM := h
  unfold ea_iGetAt f_iGetAt gat
  dsimp only
  rw [pre_iGetAt]
  by_cases h1 : 0 ≤ c ∧ c ≤ (l.length : Int) ∧ 0 ≤ k ∧ k ≤ (l.length : Int) - c
  · obtain ⟨a1, a2, a3, a4⟩ := h1
    have a5 : k ≤ (l.length : Int) := by omega
    have a6 : c ≤ (l.length : Int) - k := by omega
    have w1 : IntKind.i64.wrap ((l.length : Int) - c) = (l.length : Int) - c := by rw [IntKind.wrap_i64]; omega
    have w2 : IntKind.i64.wrap ((l.length : Int) - k) = (l.length : Int) - k := by rw [IntKind.wrap_i64]; omega
    have w3 : IntKind.i64.wrap (k + c) = k + c := by rw [IntKind.wrap_i64]; omega
    have a7 : k ≤ k + c := by omega
    have a8 : k + c ≤ (l.length : Int) := by omega
    have w4 : (k + c).toNat - k.toNat = c.toNat := by omega
    have hc := cut_eL (m := 1) (row := rowB) (l := l) (s := k.toNat) (n := c.toNat) (by omega)
    have hle : ((l.drop k.toNat).take c.toNat).length = c.toNat := by simp; omega
    simp only [eL_T, arr_fn, hle] at hc
    injection hc with _ _ hc
    have c0 : ok_clB ((l.drop k.toNat).take c.toNat) := by unfold ok_clB; rw [hle]; omega
    have s1 : c.toNat * 1 ≤ 70368744177664 := by omega
    have s2 : c.toNat ≤ 70368744177664 := by omega
    have e1 : appF 0 (rowsT []) (plainF (atL rowB ((l.drop k.toNat).take c.toNat))) = atL rowB ((l.drop k.toNat).take c.toNat) := by rw [plain_B, app0]
    simp only [a1, a2, a3, a4, a5, a6, a7, a8, w1, w2, w3, w4, decide_true, cond_true, Bool.and_self, Bool.not_true, cond_false, lt_d, ge0_d, Int.toNat_natCast, blt_d, ble_self, beq_self, decide_true, cond_true, Bool.and_self, Bool.and_true, Bool.true_and, gd_true, Nat.zero_add, List.getD_cons_zero, List.getD_cons_succ, isI_int, toI_int, isB_bool, toB_bool, eL_T, arr_ln, arr_fn, arr_wd, arr_is, arr_get, hc, ble_d, s1, s2, Nat.le_refl, e1]
    have d1 := dm_clB c0
    have d2 := iv_clB c0
    rw [hle] at d1 d2
    rw [entK_of d1 d2]
    simp only [d_clB, lt_d, ge0_d, Int.toNat_natCast, blt_d, ble_self, beq_self, decide_true, cond_true, Bool.and_self, Bool.and_true, Bool.true_and, gd_true, Nat.zero_add, List.getD_cons_zero, List.getD_cons_succ, isI_int, toI_int, isB_bool, toB_bool, eL_T, arr_ln, arr_fn, arr_wd, arr_is, arr_get, ble_d, Nat.le_refl, hle]
    simp only [oT, eL_T, hle]
    rfl
  · rw [gat_false h1]
    by_cases a1 : 0 ≤ c
    case neg =>
      simp only [a1, decide_false, cond_false]
      rfl
    by_cases a2 : c ≤ (l.length : Int)
    case neg =>
      simp only [a1, a2, decide_true, decide_false, cond_true, cond_false]
      rfl
    by_cases a3 : 0 ≤ k
    case neg =>
      simp only [a1, a2, a3, decide_true, decide_false, cond_true, cond_false]
      rfl
    have w1 : IntKind.i64.wrap ((l.length : Int) - c) = (l.length : Int) - c := by rw [IntKind.wrap_i64]; omega
    have a4 : ¬ k ≤ (l.length : Int) - c := fun e => h1 ⟨a1, a2, a3, e⟩
    simp only [a1, a2, a3, w1, a4, decide_true, decide_false, cond_true, cond_false, Bool.not_false]
    rfl
theorem s_iGetAt : EntOk prog i_iGetAt e_iGetAt := ent_ok ea_iGetAt_inj fun x hx =>
  body_sound (φ := (tabS [(i_ihas, e_ihas), (i_clB, e_clB)])) (tabS_cons s_ihas (tabS_cons s_clB tabS_nil)) mixed (kp := kp_iGetAt) (n := 0) func143 (c := bodyOf F_iGetAt) (by kernel_rfl) (body_iGetAt x.1 x.2.1 x.2.2 (0) hx) (name_ok (by kernel_rfl))
theorem body_sGetAt (l : List UInt8) (k c : Int) (n : Nat) (h : ok_sGetAt (l, k, c)) : body prog (tabS [(i_l2There, e_l2There)]) kp_sGetAt n F_sGetAt (ea_sGetAt (l, k, c)) = some ([oT (eB (f_sGetAt (l, k, c)).1), oT (.bool (f_sGetAt (l, k, c)).2)], [nul, nul, nul]) := by
  have hlm := lm
  have hl : l.length ≤ LM := h
  unfold ea_sGetAt f_sGetAt gat
  dsimp only
  rw [pre_sGetAt]
  by_cases h1 : 0 ≤ c ∧ c ≤ (l.length : Int) ∧ 0 ≤ k ∧ k ≤ (l.length : Int) - c
  · obtain ⟨a1, a2, a3, a4⟩ := h1
    have a5 : k ≤ (l.length : Int) := by omega
    have a6 : c ≤ (l.length : Int) - k := by omega
    have w1 : IntKind.i64.wrap ((l.length : Int) - c) = (l.length : Int) - c := by rw [IntKind.wrap_i64]; omega
    have w2 : IntKind.i64.wrap ((l.length : Int) - k) = (l.length : Int) - k := by rw [IntKind.wrap_i64]; omega
    have w3 : IntKind.i64.wrap (k + c) = k + c := by rw [IntKind.wrap_i64]; omega
    have a7 : k ≤ k + c := by omega
    have a8 : k + c ≤ (l.length : Int) := by omega
    have w4 : (k + c).toNat - k.toNat = c.toNat := by omega
    have hc := cut_eL (m := 1) (row := rowB) (l := l) (s := k.toNat) (n := c.toNat) (by omega)
    have hle : ((l.drop k.toNat).take c.toNat).length = c.toNat := by simp; omega
    simp only [eL_T, arr_fn, hle] at hc
    injection hc with _ _ hc
    have c0 : ok_clB ((l.drop k.toNat).take c.toNat) := by unfold ok_clB; rw [hle]; omega
    have s1 : c.toNat * 1 ≤ 70368744177664 := by omega
    have s2 : c.toNat ≤ 70368744177664 := by omega
    have e1 : appF 0 (rowsT []) (plainF (atL rowB ((l.drop k.toNat).take c.toNat))) = atL rowB ((l.drop k.toNat).take c.toNat) := by rw [plain_B, app0]
    simp only [a1, a2, a3, a4, a5, a6, a7, a8, w1, w2, w3, w4, decide_true, cond_true, Bool.and_self, Bool.not_true, cond_false, lt_d, ge0_d, Int.toNat_natCast, blt_d, ble_self, beq_self, decide_true, cond_true, Bool.and_self, Bool.and_true, Bool.true_and, gd_true, Nat.zero_add, List.getD_cons_zero, List.getD_cons_succ, isI_int, toI_int, isB_bool, toB_bool, eL_T, arr_ln, arr_fn, arr_wd, arr_is, arr_get, hc, ble_d, s1, s2, Nat.le_refl, e1]
    simp only [oT, eL_T, hle]
    rfl
  · rw [gat_false h1]
    have r0 : T.arr 1 0 (rowsT []) = T.arr 1 0 (atL rowB []) := by rw [rowsT0 rowB]
    by_cases a3 : 0 ≤ k
    case neg =>
      simp only [a3, decide_false, cond_false, r0]
      rfl
    by_cases a1 : 0 ≤ c
    case neg =>
      simp only [a1, a3, decide_true, decide_false, cond_true, cond_false, r0]
      rfl
    by_cases a5 : k ≤ (l.length : Int)
    case neg =>
      simp only [a1, a3, a5, decide_true, decide_false, cond_true, cond_false, r0]
      rfl
    have w2 : IntKind.i64.wrap ((l.length : Int) - k) = (l.length : Int) - k := by rw [IntKind.wrap_i64]; omega
    have a6 : ¬ c ≤ (l.length : Int) - k := fun e => h1 ⟨a1, by omega, a3, by omega⟩
    simp only [a1, a3, a5, w2, a6, decide_true, decide_false, cond_true, cond_false, Bool.not_false, r0]
    rfl
theorem s_sGetAt : EntOk prog i_sGetAt e_sGetAt := ent_ok ea_sGetAt_inj fun x hx =>
  body_sound (φ := (tabS [(i_l2There, e_l2There)])) (tabS_cons s_l2There tabS_nil) mixed (kp := kp_sGetAt) (n := 0) func137 (c := bodyOf F_sGetAt) (by kernel_rfl) (body_sGetAt x.1 x.2.1 x.2.2 (0) hx) (name_ok (by kernel_rfl))
end Go.Mach.F
namespace Go.Mach.F
open Go Go.Mach Go.Proofs.Try
--=set_option maxRecDepth 100000
def i_startOf : Nat := 142
noncomputable abbrev F_startOf : Func := f142
def kp_startOf : List (Nat × List Nat) := [(0, [0, 8, 12, 20, 21, 56, 60, 72, 76, 80, 84, 96, 100, 104, 108, 112, 116]), (1, [0, 8, 12, 20, 21, 120]), (2, [32, 36]), (3, [0, 12, 40]), (4, [0, 12, 40, 144]), (5, [32, 36]), (6, [32, 36])]
noncomputable def e_startOf : Ent := inl [0, 0, 0, 0] prog (tabS [(i_ihas, e_ihas)]) kp_startOf 0 F_startOf
theorem s_startOf : EntOk prog i_startOf e_startOf := inl_ok (tabS_cons s_ihas tabS_nil) mixed (c := bodyOf F_startOf) func142 (by kernel_rfl) (name_ok (by kernel_rfl))
def i_l11In : Nat := 136
noncomputable abbrev F_l11In : Func := f136
def kp_l11In : List (Nat × List Nat) := [(0, [4, 8, 12, 13, 40, 44, 56, 60, 64, 68, 80, 84, 88, 92, 96, 100, 112, 116, 120, 124, 128, 132, 136, 140, 144, 148]), (1, [24])]
noncomputable def e_l11In : Ent := inl [0, 0, 0] prog (tabS []) kp_l11In 0 F_l11In
theorem s_l11In : EntOk prog i_l11In e_l11In := inl_ok tabS_nil mixed (c := bodyOf F_l11In) func136 (by kernel_rfl) (name_ok (by kernel_rfl))
theorem Th.cs_ext {x y : Th} (h : x.cs = y.cs) : x = y := Th.cs_inj x y fun k => by rw [h]
/-- What is read of a thing. -/
def rdT (m : List UInt8) (t : Th) (o k : Int) : List UInt8 × Bool := bif decide (0 ≤ o) && (decide (0 ≤ k) && decide (o + k ≤ t.len)) then gat m (IntKind.i64.wrap (t.pos + o)) k else ([], false)
def ok_iRead (x : List UInt8 × Th × Int × Int) : Prop := x.1.length ≤ LM ∧ inI x.2.1.len ∧ inI x.2.2.1 ∧ inI x.2.2.2
def ea_iRead (x : List UInt8 × Th × Int × Int) : List Arg := [aT (eB x.1), aR x.2.1.cs, aI x.2.2.1, aI x.2.2.2]
def f_iRead (x : List UInt8 × Th × Int × Int) : List UInt8 × Bool := rdT x.1 x.2.1 x.2.2.1 x.2.2.2
noncomputable def e_iRead : Ent := ent [] ok_iRead ea_iRead (fun (x : List UInt8 × Bool) => ([oT (eB x.1), oT (.bool x.2)], [nul, nul, nul, nul])) f_iRead
theorem ea_iRead_inj (x y : List UInt8 × Th × Int × Int) (h : ea_iRead x = ea_iRead y) : x = y := by
  obtain ⟨m1, t1, o1, k1⟩ := x
  obtain ⟨m2, t2, o2, k2⟩ := y
  simp only [ea_iRead, List.cons.injEq, and_true, true_and] at h
  obtain ⟨e0, e1, e2, e3⟩ := h
  obtain rfl := eB_inj (aT_inj e0)
  obtain rfl := Th.cs_ext (aR_inj e1)
  obtain rfl := aI_inj e2
  obtain rfl := aI_inj e3
  rfl
theorem dm_iRead {m : List UInt8} {t : Th} {o : Int} {k : Int} (h : ok_iRead (m, t, o, k)) : dom ok_iRead ea_iRead [(0, false, [C.tr false (T.arr 1 m.length (atL rowB m))]), (0, true, [C.tr false (T.int IntKind.i64 t.pos), C.tr false (T.int IntKind.i64 t.len), C.tr false (T.int IntKind.i64 t.run)]), (0, false, [C.tr false (T.int IntKind.i64 o)]), (0, false, [C.tr false (T.int IntKind.i64 k)])] = true := dom_ea (ea := ea_iRead) (x := (m, t, o, k)) h
theorem iv_iRead {m : List UInt8} {t : Th} {o : Int} {k : Int} (h : ok_iRead (m, t, o, k)) : inv ok_iRead ea_iRead [(0, false, [C.tr false (T.arr 1 m.length (atL rowB m))]), (0, true, [C.tr false (T.int IntKind.i64 t.pos), C.tr false (T.int IntKind.i64 t.len), C.tr false (T.int IntKind.i64 t.run)]), (0, false, [C.tr false (T.int IntKind.i64 o)]), (0, false, [C.tr false (T.int IntKind.i64 k)])] = (m, t, o, k) := inv_ea ea_iRead_inj (x := (m, t, o, k)) h
def i_iRead : Nat := 84
noncomputable abbrev F_iRead : Func := f84
def kp_iRead : List (Nat × List Nat) := [(0, [0, 8, 12, 20, 21]), (1, [0, 12, 40, 44]), (2, [0, 12, 40, 84]), (3, [32, 36]), (4, [32, 36])]
theorem pre_iRead (m : List UInt8) (t : Th) (o : Int) (k : Int) (n : Nat) : body prog (tabS [(i_startOf, e_startOf), (i_iGetAt, e_iGetAt)]) kp_iRead n F_iRead [aT (eB m), aR t.cs, aI o, aI k] = (
 bif decide (o < 0) then
  some ([(false, [.tr true (.arr (1) (0) (fun x x_1 => T.hole))]), (false, [.tr true (T.bool false)])], [(false, []), (false, []), (false, []), (false, [])])
 else
 bif decide (k < 0) then
  some ([(false, [.tr true (.arr (1) (0) (fun x x_1 => T.hole))]), (false, [.tr true (T.bool false)])], [(false, []), (false, []), (false, []), (false, [])])
 else
 bif decide (t.2 < k) then
  some ([(false, [.tr true (.arr (1) (0) (fun x x_1 => T.hole))]), (false, [.tr true (T.bool false)])], [(false, []), (false, []), (false, []), (false, [])])
 else
 bif decide (IntKind.i64.wrap (t.2 - k) < o) then
  some ([(false, [.tr true (.arr (1) (0) (fun x x_1 => T.hole))]), (false, [.tr true (T.bool false)])], [(false, []), (false, []), (false, []), (false, [])])
 else
 bif decide (IntKind.i64.wrap (t.1 + o) < 0) then
  some ([(false, [.tr true (.arr (1) (0) (fun x x_1 => T.hole))]), (false, [.tr true (T.bool false)])], [(false, []), (false, []), (false, []), (false, [])])
 else
 bif decide (0 ≤ k) then
  bif decide (k ≤ (↑m.length : Int)) then
   bif decide (0 ≤ IntKind.i64.wrap (t.1 + o)) then
    bif !decide (IntKind.i64.wrap (t.1 + o) ≤ IntKind.i64.wrap ((↑m.length : Int) - k)) then
     some ([(false, [.tr true (.arr (1) (0) (fun x x_1 => T.hole))]), (false, [.tr true (T.bool false)])], [(false, []), (false, []), (false, []), (false, [])])
    else
    entK ok_iGetAt ea_iGetAt (f_iGetAt) [(0, false, [C.tr false (T.arr 1 m.length (atL rowB m))]),
  (0, false, [C.tr false (T.int IntKind.i64 (IntKind.i64.wrap (t.1 + o)))]),
  (0, false, [C.tr false (T.int IntKind.i64 k)])] fun (r1 : List UInt8 × Bool) =>
    gd (r1.1.length.ble r1.1.length && true) <|
    gd (r1.1.length.ble r1.1.length && true) <|
    some ([(false, [.tr true (.arr (1) (r1.1.length) (atL rowB r1.1))]), (false, [.tr true (T.bool r1.2)])], [(false, []), (false, []), (false, []), (false, [])])
   else
   some ([(false, [.tr true (.arr (1) (0) (fun x x_1 => T.hole))]), (false, [.tr true (T.bool false)])], [(false, []), (false, []), (false, []), (false, [])])
  else
  some ([(false, [.tr true (.arr (1) (0) (fun x x_1 => T.hole))]), (false, [.tr true (T.bool false)])], [(false, []), (false, []), (false, []), (false, [])])
 else
 some ([(false, [.tr true (.arr (1) (0) (fun x x_1 => T.hole))]), (false, [.tr true (T.bool false)])], [(false, []), (false, []), (false, []), (false, [])])) := by kernel_rfl
def ok_sRead (x : List UInt8 × Th × Int × Int) : Prop := x.1.length ≤ LM ∧ inI x.2.1.len ∧ inI x.2.2.1 ∧ inI x.2.2.2
def ea_sRead (x : List UInt8 × Th × Int × Int) : List Arg := [aT (eB x.1), aR x.2.1.cs, aI x.2.2.1, aI x.2.2.2]
def f_sRead (x : List UInt8 × Th × Int × Int) : List UInt8 × Bool := rdT x.1 x.2.1 x.2.2.1 x.2.2.2
noncomputable def e_sRead : Ent := ent [] ok_sRead ea_sRead (fun (x : List UInt8 × Bool) => ([oT (eB x.1), oT (.bool x.2)], [nul, nul, nul, nul])) f_sRead
theorem ea_sRead_inj (x y : List UInt8 × Th × Int × Int) (h : ea_sRead x = ea_sRead y) : x = y := by
  obtain ⟨m1, t1, o1, k1⟩ := x
  obtain ⟨m2, t2, o2, k2⟩ := y
  simp only [ea_sRead, List.cons.injEq, and_true, true_and] at h
  obtain ⟨e0, e1, e2, e3⟩ := h
  obtain rfl := eB_inj (aT_inj e0)
  obtain rfl := Th.cs_ext (aR_inj e1)
  obtain rfl := aI_inj e2
  obtain rfl := aI_inj e3
  rfl
theorem dm_sRead {m : List UInt8} {t : Th} {o : Int} {k : Int} (h : ok_sRead (m, t, o, k)) : dom ok_sRead ea_sRead [(0, false, [C.tr false (T.arr 1 m.length (atL rowB m))]), (0, true, [C.tr false (T.int IntKind.i64 t.pos), C.tr false (T.int IntKind.i64 t.len), C.tr false (T.int IntKind.i64 t.run)]), (0, false, [C.tr false (T.int IntKind.i64 o)]), (0, false, [C.tr false (T.int IntKind.i64 k)])] = true := dom_ea (ea := ea_sRead) (x := (m, t, o, k)) h
theorem iv_sRead {m : List UInt8} {t : Th} {o : Int} {k : Int} (h : ok_sRead (m, t, o, k)) : inv ok_sRead ea_sRead [(0, false, [C.tr false (T.arr 1 m.length (atL rowB m))]), (0, true, [C.tr false (T.int IntKind.i64 t.pos), C.tr false (T.int IntKind.i64 t.len), C.tr false (T.int IntKind.i64 t.run)]), (0, false, [C.tr false (T.int IntKind.i64 o)]), (0, false, [C.tr false (T.int IntKind.i64 k)])] = (m, t, o, k) := inv_ea ea_sRead_inj (x := (m, t, o, k)) h
def i_sRead : Nat := 76
noncomputable abbrev F_sRead : Func := f76
def kp_sRead : List (Nat × List Nat) := [(0, [0, 8, 12, 20, 21]), (1, [0, 8, 12, 20, 21, 56]), (2, [32, 36]), (3, [32, 36])]
theorem pre_sRead (m : List UInt8) (t : Th) (o : Int) (k : Int) (n : Nat) : body prog (tabS [(i_l11In, e_l11In), (i_sGetAt, e_sGetAt)]) kp_sRead n F_sRead [aT (eB m), aR t.cs, aI o, aI k] = (
 bif decide (0 ≤ o) then
  bif decide (0 ≤ k) then
   bif decide (o ≤ t.2) then
    bif decide (k ≤ IntKind.i64.wrap (t.2 - o)) then
     bif decide (t.1 < 0) then
      entK ok_sGetAt ea_sGetAt (f_sGetAt) [(0, false, [C.tr false (T.arr 1 m.length (atL rowB m))]),
  (0, false, [C.tr false (T.int IntKind.i64 (IntKind.i64.wrap (t.1 + o)))]),
  (0, false, [C.tr false (T.int IntKind.i64 k)])] fun (r1 : List UInt8 × Bool) =>
      gd (r1.1.length.ble r1.1.length && true) <|
      gd (r1.1.length.ble r1.1.length && true) <|
      some ([(false, [.tr true (.arr (1) (r1.1.length) (atL rowB r1.1))]), (false, [.tr true (T.bool r1.2)])], [(false, []), (false, []), (false, []), (false, [])])
     else
     bif !decide (0 ≤ IntKind.i64.wrap (t.1 + o)) then
      some ([(false, [.tr true (.arr (1) (0) (rowsT []))]), (false, [.tr true (T.bool false)])], [(false, []), (false, []), (false, []), (false, [])])
     else
     entK ok_sGetAt ea_sGetAt (f_sGetAt) [(0, false, [C.tr false (T.arr 1 m.length (atL rowB m))]),
  (0, false, [C.tr false (T.int IntKind.i64 (IntKind.i64.wrap (t.1 + o)))]),
  (0, false, [C.tr false (T.int IntKind.i64 k)])] fun (r2 : List UInt8 × Bool) =>
     gd (r2.1.length.ble r2.1.length && true) <|
     gd (r2.1.length.ble r2.1.length && true) <|
     some ([(false, [.tr true (.arr (1) (r2.1.length) (atL rowB r2.1))]), (false, [.tr true (T.bool r2.2)])], [(false, []), (false, []), (false, []), (false, [])])
    else
    some ([(false, [.tr true (.arr (1) (0) (rowsT []))]), (false, [.tr true (T.bool false)])], [(false, []), (false, []), (false, []), (false, [])])
   else
   some ([(false, [.tr true (.arr (1) (0) (rowsT []))]), (false, [.tr true (T.bool false)])], [(false, []), (false, []), (false, []), (false, [])])
  else
  some ([(false, [.tr true (.arr (1) (0) (rowsT []))]), (false, [.tr true (T.bool false)])], [(false, []), (false, []), (false, []), (false, [])])
 else
 some ([(false, [.tr true (.arr (1) (0) (rowsT []))]), (false, [.tr true (T.bool false)])], [(false, []), (false, []), (false, []), (false, [])])) := by kernel_rfl
end Go.Mach.F
namespace Go.Mach.F
open Go Go.Mach Go.Proofs.Try
theorem body_iRead (m : List UInt8) (t : Th) (o k : Int) (n : Nat) (h : ok_iRead (m, t, o, k)) : body prog (tabS [(i_startOf, e_startOf), (i_iGetAt, e_iGetAt)]) kp_iRead n F_iRead (ea_iRead (m, t, o, k)) = some ([oT (eB (f_iRead (m, t, o, k)).1), oT (.bool (f_iRead (m, t, o, k)).2)], [nul, nul, nul, nul]) := by
  have hlm := lm
  obtain ⟨hl, ht, ho, hk⟩ := h
  dsimp only at hl ht ho hk
  unfold inI at ht ho hk
  unfold ea_iRead f_iRead rdT
  dsimp only
  rw [pre_iRead]
  obtain ⟨s, hs⟩ : ∃ s, s = IntKind.i64.wrap (t.pos + o) := ⟨_, rfl⟩
  have e1 : IntKind.i64.wrap (t.1 + o) = s := hs.symm
  have c0 : ok_iGetAt (m, s, k) := hl
  simp only [e1]
  by_cases h1 : 0 ≤ o
  case neg =>
    simp only [show o < 0 from by omega, h1, decide_true, decide_false, cond_true, cond_false, Bool.false_and]
    rfl
  have h1' : ¬ o < 0 := by omega
  by_cases h2 : 0 ≤ k
  case neg =>
    simp only [h1', show k < 0 from by omega, h2, decide_true, decide_false, cond_true, cond_false, Bool.false_and, Bool.and_false]
    rfl
  have h2' : ¬ k < 0 := by omega
  by_cases h3 : o + k ≤ t.len
  case neg =>
    by_cases h4 : t.len < k
    · simp only [h1', h2', h3, show t.2 < k from h4, decide_true, decide_false, cond_true, cond_false, Bool.and_false]
      rfl
    · have w1 : IntKind.i64.wrap (t.2 - k) = t.len - k := by rw [IntKind.wrap_i64]; show ((t.len - k) + 9223372036854775808) % 18446744073709551616 - 9223372036854775808 = _; omega
      simp only [h1', h2', h3, show ¬ t.2 < k from h4, w1, show t.len - k < o from by omega, decide_true, decide_false, cond_true, cond_false, Bool.and_false]
      rfl
  have h4 : ¬ t.2 < k := by show ¬ t.len < k; omega
  have w1 : IntKind.i64.wrap (t.2 - k) = t.len - k := by rw [IntKind.wrap_i64]; show ((t.len - k) + 9223372036854775808) % 18446744073709551616 - 9223372036854775808 = _; omega
  have h5 : ¬ t.len - k < o := by omega
  simp only [h1, h1', h2, h2', h3, h4, w1, h5, decide_true, decide_false, cond_true, cond_false, Bool.and_self]
  by_cases h6 : 0 ≤ s
  case neg =>
    rw [show gat m s k = ([], false) from by
      unfold gat
      rw [decide_eq_false h6, Bool.false_and, Bool.and_false]
      rfl]
    simp only [show s < 0 from by omega, decide_true, cond_true]
    rfl
  have h6' : ¬ s < 0 := by omega
  simp only [h6, h6', decide_true, decide_false, cond_true, cond_false]
  by_cases h7 : k ≤ (m.length : Int)
  case neg =>
    rw [show gat m s k = ([], false) from by
      unfold gat
      rw [decide_eq_false h7, Bool.and_false, Bool.false_and]
      rfl]
    simp only [h7, decide_false, cond_false]
    rfl
  have w2 : IntKind.i64.wrap ((m.length : Int) - k) = (m.length : Int) - k := by rw [IntKind.wrap_i64]; omega
  simp only [h7, w2, decide_true, cond_true]
  by_cases h8 : s ≤ (m.length : Int) - k
  case neg =>
    rw [show gat m s k = ([], false) from by
      unfold gat
      rw [decide_eq_false h8, Bool.and_false, Bool.and_false]
      rfl]
    simp only [h8, decide_false, Bool.not_false, cond_true]
    rfl
  simp only [h8, decide_true, Bool.not_true, cond_false]
  rw [entK_of (dm_iGetAt c0) (iv_iGetAt c0)]
  simp only [f_iGetAt, lt_d, ge0_d, Int.toNat_natCast, blt_d, ble_self, beq_self, decide_true, cond_true, Bool.and_self, Bool.and_true, Bool.true_and, gd_true, Nat.zero_add, List.getD_cons_zero, List.getD_cons_succ, isI_int, toI_int, isB_bool, toB_bool, eL_T, arr_ln, arr_fn, arr_wd, arr_is, arr_get, ble_d, Nat.le_refl]
  rfl
theorem s_iRead : EntOk prog i_iRead e_iRead := ent_ok ea_iRead_inj fun x hx =>
  body_sound (φ := (tabS [(i_startOf, e_startOf), (i_iGetAt, e_iGetAt)])) (tabS_cons s_startOf (tabS_cons s_iGetAt tabS_nil)) mixed (kp := kp_iRead) (n := 0) func84 (c := bodyOf F_iRead) (by kernel_rfl) (body_iRead x.1 x.2.1 x.2.2.1 x.2.2.2 (0) hx) (name_ok (by kernel_rfl))
theorem body_sRead (m : List UInt8) (t : Th) (o k : Int) (n : Nat) (h : ok_sRead (m, t, o, k)) : body prog (tabS [(i_l11In, e_l11In), (i_sGetAt, e_sGetAt)]) kp_sRead n F_sRead (ea_sRead (m, t, o, k)) = some ([oT (eB (f_sRead (m, t, o, k)).1), oT (.bool (f_sRead (m, t, o, k)).2)], [nul, nul, nul, nul]) := by
  have hlm := lm
  obtain ⟨hl, ht, ho, hk⟩ := h
  dsimp only at hl ht ho hk
  unfold inI at ht ho hk
  unfold ea_sRead f_sRead rdT
  dsimp only
  rw [pre_sRead]
  obtain ⟨s, hs⟩ : ∃ s, s = IntKind.i64.wrap (t.pos + o) := ⟨_, rfl⟩
  have e1 : IntKind.i64.wrap (t.1 + o) = s := hs.symm
  have c0 : ok_sGetAt (m, s, k) := hl
  simp only [e1, rowsT0 rowB]
  by_cases h1 : 0 ≤ o
  case neg =>
    simp only [h1, decide_true, decide_false, cond_true, cond_false, Bool.false_and]
    rfl
  by_cases h2 : 0 ≤ k
  case neg =>
    simp only [h1, h2, decide_true, decide_false, cond_true, cond_false, Bool.false_and, Bool.and_false]
    rfl
  by_cases h3 : o + k ≤ t.len
  case neg =>
    by_cases h4 : o ≤ t.len
    · have w1 : IntKind.i64.wrap (t.2 - o) = t.len - o := by rw [IntKind.wrap_i64]; show ((t.len - o) + 9223372036854775808) % 18446744073709551616 - 9223372036854775808 = _; omega
      simp only [h1, h2, h3, show o ≤ t.2 from h4, w1, show ¬ k ≤ t.len - o from by omega, decide_true, decide_false, cond_true, cond_false, Bool.and_false]
      rfl
    · simp only [h1, h2, h3, show ¬ o ≤ t.2 from h4, decide_true, decide_false, cond_true, cond_false, Bool.and_false]
      rfl
  have h4 : o ≤ t.2 := by show o ≤ t.len; omega
  have w1 : IntKind.i64.wrap (t.2 - o) = t.len - o := by rw [IntKind.wrap_i64]; show ((t.len - o) + 9223372036854775808) % 18446744073709551616 - 9223372036854775808 = _; omega
  have h5 : k ≤ t.len - o := by omega
  simp only [h1, h2, h3, h4, w1, h5, decide_true, decide_false, cond_true, cond_false, Bool.and_self]
  by_cases h6 : t.1 < 0
  · simp only [h6, decide_true, cond_true]
    rw [entK_of (dm_sGetAt c0) (iv_sGetAt c0)]
    simp only [f_sGetAt, lt_d, ge0_d, Int.toNat_natCast, blt_d, ble_self, beq_self, decide_true, cond_true, Bool.and_self, Bool.and_true, Bool.true_and, gd_true, Nat.zero_add, List.getD_cons_zero, List.getD_cons_succ, isI_int, toI_int, isB_bool, toB_bool, eL_T, arr_ln, arr_fn, arr_wd, arr_is, arr_get, ble_d, Nat.le_refl]
    rfl
  · simp only [h6, decide_false, cond_false]
    by_cases h7 : 0 ≤ s
    · simp only [h7, decide_true, Bool.not_true, cond_false]
      rw [entK_of (dm_sGetAt c0) (iv_sGetAt c0)]
      simp only [f_sGetAt, lt_d, ge0_d, Int.toNat_natCast, blt_d, ble_self, beq_self, decide_true, cond_true, Bool.and_self, Bool.and_true, Bool.true_and, gd_true, Nat.zero_add, List.getD_cons_zero, List.getD_cons_succ, isI_int, toI_int, isB_bool, toB_bool, eL_T, arr_ln, arr_fn, arr_wd, arr_is, arr_get, ble_d, Nat.le_refl]
      rfl
    · rw [show gat m s k = ([], false) from by
        unfold gat
        rw [decide_eq_false h7, Bool.false_and, Bool.and_false]
        rfl]
      simp only [h7, decide_false, Bool.not_false, cond_true]
      rfl
theorem s_sRead : EntOk prog i_sRead e_sRead := ent_ok ea_sRead_inj fun x hx =>
  body_sound (φ := (tabS [(i_l11In, e_l11In), (i_sGetAt, e_sGetAt)])) (tabS_cons s_l11In (tabS_cons s_sGetAt tabS_nil)) mixed (kp := kp_sRead) (n := 0) func76 (c := bodyOf F_sRead) (by kernel_rfl) (body_sRead x.1 x.2.1 x.2.2.1 x.2.2.2 (0) hx) (name_ok (by kernel_rfl))
end Go.Mach.F
