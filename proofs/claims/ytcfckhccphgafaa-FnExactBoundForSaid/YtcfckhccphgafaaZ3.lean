/- Lemmas and definitions of the proof (Fd Wa Xa Vx Vf Qa Qb Xc Ka Kb Aa Ab Ea Xf Xg Ac Ad Ae). Conditions: none. -/
import Derived.Test.YtcfckhccphgafaaZ2
set_option linter.all false
namespace Go.Mach.F
open Go Go.Mach Go.Proofs.Try
--=set_option maxRecDepth 100000
theorem Nd.cs_inj (x y : Nd) (h : ∀ k, x.cs.getD k .hole = y.cs.getD k .hole) : x = y := by
  have h0 := h 0; have h1 := h 1; have h2 := h 2; have h3 := h 3; have h4 := h 4; have h5 := h 5; have h6 := h 6; have h7 := h 7; have h8 := h 8; have h9 := h 9; have h10 := h 10; have h11 := h 11; have h12 := h 12
  rcases x with ⟨x0, x1, x2, x3, x4, x5, x6, x7, x8, x9, x10, x11, x12⟩
  rcases y with ⟨y0, y1, y2, y3, y4, y5, y6, y7, y8, y9, y10, y11, y12⟩
  simp only [Nd.cs, List.getD_cons_zero, List.getD_cons_succ, T.int.injEq, T.bool.injEq, true_and] at h0 h1 h2 h3 h4 h5 h6 h7 h8 h9 h10 h11 h12
  replace h8 := eI_inj h8
  replace h11 := eL_inj Th.cs_inj h11
  replace h12 := eI_inj h12
  subst h0; subst h1; subst h2; subst h3; subst h4; subst h5; subst h6; subst h7; subst h8; subst h9; subst h10; subst h11; subst h12
  rfl
def i_toNd : Nat := 84
noncomputable abbrev F_toNd : Func := f84
def kp_toNd : List (Nat × List Nat) := [(0, [4, 5, 8, 9, 12, 13, 184]), (1, [4, 5, 8, 9, 12, 13, 184]), (2, [4, 5, 8, 9, 12, 13, 184]), (3, [4, 5, 8, 9, 12, 13, 184]), (4, [4, 5, 8, 9, 12, 13, 184]), (5, [4, 5, 8, 9, 12, 13, 184]), (6, [4, 5, 8, 9, 12, 13, 184]), (7, [4, 5, 8, 9, 12, 13, 184]), (8, [4, 5, 8, 9, 12, 13, 184]), (9, [4, 5, 8, 9, 12, 13, 184]), (10, [4, 5, 8, 9, 12, 13, 184]), (11, [4, 5, 8, 9, 12, 13, 184]), (12, [4, 5, 8, 9, 12, 13, 184]), (13, [4, 5, 8, 9, 12, 13, 184]), (14, [8, 9, 12, 13, 184]), (15, [8, 9, 12, 13, 184])]
noncomputable def e_toNd : Ent := inl [] prog (tabS [(i_toLI, e_toLI), (i_toThS, e_toThS)]) kp_toNd 0 F_toNd
theorem s_toNd : EntOk prog i_toNd e_toNd := inl_ok (tabS_cons s_toLI (tabS_cons s_toThS tabS_nil)) mixed (c := bodyOf F_toNd) func84 (by kernel_rfl) (name_ok (by kernel_rfl))
def i_eqNd : Nat := 89
noncomputable abbrev F_eqNd : Func := f89
def kp_eqNd : List (Nat × List Nat) := [(0, [8, 9, 12, 13]), (1, [8, 9, 12, 13, 36]), (2, [16]), (3, [8, 9, 12, 13, 56]), (4, [16]), (5, [8, 9, 12, 13, 76]), (6, [16]), (7, [8, 9, 12, 13, 96]), (8, [16]), (9, [8, 9, 12, 13, 116]), (10, [16]), (11, [8, 9, 12, 13, 136]), (12, [16]), (13, [8, 9, 12, 13, 156]), (14, [16]), (15, [8, 9, 12, 13, 176]), (16, [16]), (17, [8, 9, 12, 13, 200]), (18, [16]), (19, [8, 9, 12, 13, 220]), (20, [16]), (21, [8, 9, 12, 13, 240]), (22, [16]), (23, [8, 9, 12, 13, 264]), (24, [16]), (25, [288]), (26, [16]), (27, [16])]
noncomputable def e_eqNd : Ent := inl [] prog (tabS [(i_eqLI, e_eqLI), (i_eqThS, e_eqThS)]) kp_eqNd 0 F_eqNd
theorem s_eqNd : EntOk prog i_eqNd e_eqNd := inl_ok (tabS_cons s_eqLI (tabS_cons s_eqThS tabS_nil)) mixed (c := bodyOf F_eqNd) func89 (by kernel_rfl) (name_ok (by kernel_rfl))
def i_szNd : Nat := 79
noncomputable abbrev F_szNd : Func := f79
def kp_szNd : List (Nat × List Nat) := [(0, [4, 8, 9]), (1, [4, 8, 9]), (2, [4, 8, 9, 40]), (3, [16]), (4, [4, 8, 9]), (5, [4, 8, 9, 64]), (6, [16]), (7, [4]), (8, [4, 88]), (9, [16]), (10, [16])]
noncomputable def e_szNd : Ent := inl [] prog (tabS [(i_szLI, e_szLI), (i_szThS, e_szThS)]) kp_szNd 0 F_szNd
theorem s_szNd : EntOk prog i_szNd e_szNd := inl_ok (tabS_cons s_szLI (tabS_cons s_szThS tabS_nil)) mixed (c := bodyOf F_szNd) func79 (by kernel_rfl) (name_ok (by kernel_rfl))
def ok_NdS (l : List Nd) : Prop := l.length ≤ LM ∧ ∀ x ∈ l, ok_LI x.chunks ∧ ok_ThS x.things ∧ ok_LI x.tags
def ea_NdS (l : List Nd) : List Arg := [aT (eL 13 Nd.cs l)]
noncomputable def e_toNdS : Ent := ent [] ok_NdS ea_NdS (fun l => erT 1 (eL 13 Nd.cs l)) fun l => l
def okq_NdS (l : List Nd) : Prop := l.length ≤ BM ∧ ∀ x ∈ l, okq_LI x.chunks ∧ okq_ThS x.things ∧ okq_LI x.tags
def ok2_NdS (x : List Nd × List Nd) : Prop := okq_NdS x.1
def ea2_NdS (x : List Nd × List Nd) : List Arg := [aT (eL 13 Nd.cs x.1), aT (eL 13 Nd.cs x.2)]
def f_eqNdS (x : List Nd × List Nd) : Bool := decide (x.1 = x.2)
noncomputable def e_eqNdS : Ent := ent [] ok2_NdS ea2_NdS (erB 2) f_eqNdS
theorem ea_NdS_inj (x y : List Nd) (h : ea_NdS x = ea_NdS y) : x = y := by
  simp only [ea_NdS, aT, List.cons.injEq, Prod.mk.injEq, true_and, and_true, C.tr.injEq] at h
  exact eL_inj Nd.cs_inj h
theorem ea2_NdS_inj (x y : List Nd × List Nd) (h : ea2_NdS x = ea2_NdS y) : x = y := by
  simp only [ea2_NdS, aT, List.cons.injEq, Prod.mk.injEq, true_and, and_true, C.tr.injEq] at h
  exact Prod.ext (eL_inj Nd.cs_inj h.1) (eL_inj Nd.cs_inj h.2)
def i_toNdS : Nat := 39
noncomputable abbrev F_toNdS : Func := f39
def kp_toNdS : List (Nat × List Nat) := [(0, [0]), (1, [0, 12]), (2, [0, 12, 16]), (3, [0, 12, 16, 44]), (4, [0, 12, 16]), (5, [0, 12, 16]), (6, [8])]
def ts_toNdS : List Nat := [0]
def st_toNdS_1 (l : List Nd) (nx12 : Nat) (fx12 : Nat → Nat → T) (x16 : Int) : St := [(0, ⟨z0, [(false, [.tr false (eL 13 Nd.cs l)])]⟩), (12, ⟨z0, [(false, [.tr true (.arr (13) (nx12) (fx12))])]⟩), (16, ⟨z0, [(false, [.tr true (T.int IntKind.i64 x16)])]⟩)]
def ex_toNdS_1_1 (l : List Nd) (nx12 : Nat) (fx12 : Nat → Nat → T) (x16 : Int) : St := [(0, ⟨z0, [(false, [.tr false (eL 13 Nd.cs l)])]⟩), (12, ⟨z0, [(false, [.tr true (.arr (13) (nx12) (fx12))])]⟩), (16, ⟨z0, [(false, [.tr true (T.int IntKind.i64 x16)])]⟩), (44, ⟨z0, []⟩)]
theorem round_toNdS_1 (l : List Nd) (nx12 : Nat) (fx12 : Nat → Nat → T) (x16 : Int) (n : Nat) (K : Ex → St → Res) : roundAt prog (tabS [(i_toNd, e_toNd)]) kp_toNdS F_toNdS [1, 1, 0, 1, 0] n (st_toNdS_1 l nx12 fx12 x16) K = (
 bif decide (x16 < (↑l.length : Int)) then
  gd (decide (0 ≤ x16) && (x16.toNat.blt l.length && true)) <|
  gd (T.isI IntKind.i64 (atL Nd.cs l x16.toNat 0) && T.isI IntKind.i64 (atL Nd.cs l x16.toNat 1) &&
                      T.isI IntKind.i64 (atL Nd.cs l x16.toNat 2) &&
                    T.isI IntKind.i64 (atL Nd.cs l x16.toNat 3) &&
                  T.isI IntKind.i64 (atL Nd.cs l x16.toNat 4) &&
                T.isI IntKind.i64 (atL Nd.cs l x16.toNat 5) &&
              T.isI IntKind.i64 (atL Nd.cs l x16.toNat 6) &&
            T.isI IntKind.i64 (atL Nd.cs l x16.toNat 7) &&
          ((atL Nd.cs l x16.toNat 8).isArr && (atL Nd.cs l x16.toNat 8).wd.beq 1) &&
        T.isI IntKind.i64 (atL Nd.cs l x16.toNat 9) &&
      T.isI IntKind.i64 (atL Nd.cs l x16.toNat 10) &&
    ((atL Nd.cs l x16.toNat 11).isArr && (atL Nd.cs l x16.toNat 11).wd.beq 3) &&
  ((atL Nd.cs l x16.toNat 12).isArr && (atL Nd.cs l x16.toNat 12).wd.beq 1)) <|
  gd (dom ok_LI ea_LI [(0, false, [C.tr false (T.arr 1 (atL Nd.cs l x16.toNat 8).ln (atL Nd.cs l x16.toNat 8).fn)])]) <|
  gd ((inv ok_LI ea_LI
          [(0, false, [C.tr false (T.arr 1 (atL Nd.cs l x16.toNat 8).ln (atL Nd.cs l x16.toNat 8).fn)])]).length.ble
    (inv ok_LI ea_LI
        [(0, false, [C.tr false (T.arr 1 (atL Nd.cs l x16.toNat 8).ln (atL Nd.cs l x16.toNat 8).fn)])]).length &&
  true) <|
  gd (dom ok_ThS ea_ThS [(0, false, [C.tr false (T.arr 3 (atL Nd.cs l x16.toNat 11).ln (atL Nd.cs l x16.toNat 11).fn)])]) <|
  gd ((inv ok_ThS ea_ThS
          [(0, false, [C.tr false (T.arr 3 (atL Nd.cs l x16.toNat 11).ln (atL Nd.cs l x16.toNat 11).fn)])]).length.ble
    (inv ok_ThS ea_ThS
        [(0, false, [C.tr false (T.arr 3 (atL Nd.cs l x16.toNat 11).ln (atL Nd.cs l x16.toNat 11).fn)])]).length &&
  true) <|
  gd (dom ok_LI ea_LI [(0, false, [C.tr false (T.arr 1 (atL Nd.cs l x16.toNat 12).ln (atL Nd.cs l x16.toNat 12).fn)])]) <|
  gd ((inv ok_LI ea_LI
          [(0, false, [C.tr false (T.arr 1 (atL Nd.cs l x16.toNat 12).ln (atL Nd.cs l x16.toNat 12).fn)])]).length.ble
    (inv ok_LI ea_LI
        [(0, false, [C.tr false (T.arr 1 (atL Nd.cs l x16.toNat 12).ln (atL Nd.cs l x16.toNat 12).fn)])]).length &&
  true) <|
  gd ((inv ok_LI ea_LI
          [(0, false, [C.tr false (T.arr 1 (atL Nd.cs l x16.toNat 8).ln (atL Nd.cs l x16.toNat 8).fn)])]).length.ble
    (inv ok_LI ea_LI
        [(0, false, [C.tr false (T.arr 1 (atL Nd.cs l x16.toNat 8).ln (atL Nd.cs l x16.toNat 8).fn)])]).length &&
  true) <|
  gd ((inv ok_ThS ea_ThS
          [(0, false, [C.tr false (T.arr 3 (atL Nd.cs l x16.toNat 11).ln (atL Nd.cs l x16.toNat 11).fn)])]).length.ble
    (inv ok_ThS ea_ThS
        [(0, false, [C.tr false (T.arr 3 (atL Nd.cs l x16.toNat 11).ln (atL Nd.cs l x16.toNat 11).fn)])]).length &&
  true) <|
  gd ((inv ok_LI ea_LI
          [(0, false, [C.tr false (T.arr 1 (atL Nd.cs l x16.toNat 12).ln (atL Nd.cs l x16.toNat 12).fn)])]).length.ble
    (inv ok_LI ea_LI
        [(0, false, [C.tr false (T.arr 1 (atL Nd.cs l x16.toNat 12).ln (atL Nd.cs l x16.toNat 12).fn)])]).length &&
  true) <|
  gd ((inv ok_LI ea_LI
          [(0, false, [C.tr false (T.arr 1 (atL Nd.cs l x16.toNat 8).ln (atL Nd.cs l x16.toNat 8).fn)])]).length.ble
    (inv ok_LI ea_LI
        [(0, false, [C.tr false (T.arr 1 (atL Nd.cs l x16.toNat 8).ln (atL Nd.cs l x16.toNat 8).fn)])]).length &&
  true) <|
  gd ((inv ok_ThS ea_ThS
          [(0, false, [C.tr false (T.arr 3 (atL Nd.cs l x16.toNat 11).ln (atL Nd.cs l x16.toNat 11).fn)])]).length.ble
    (inv ok_ThS ea_ThS
        [(0, false, [C.tr false (T.arr 3 (atL Nd.cs l x16.toNat 11).ln (atL Nd.cs l x16.toNat 11).fn)])]).length &&
  true) <|
  gd ((inv ok_LI ea_LI
          [(0, false, [C.tr false (T.arr 1 (atL Nd.cs l x16.toNat 12).ln (atL Nd.cs l x16.toNat 12).fn)])]).length.ble
    (inv ok_LI ea_LI
        [(0, false, [C.tr false (T.arr 1 (atL Nd.cs l x16.toNat 12).ln (atL Nd.cs l x16.toNat 12).fn)])]).length &&
  true) <|
  gd (decide (0 ≤ x16) && (x16.toNat.blt nx12 && true)) <|
  gd ((inv ok_LI ea_LI
          [(0, false, [C.tr false (T.arr 1 (atL Nd.cs l x16.toNat 8).ln (atL Nd.cs l x16.toNat 8).fn)])]).length.ble
    (inv ok_LI ea_LI
        [(0, false, [C.tr false (T.arr 1 (atL Nd.cs l x16.toNat 8).ln (atL Nd.cs l x16.toNat 8).fn)])]).length &&
  true) <|
  gd ((inv ok_ThS ea_ThS
          [(0, false, [C.tr false (T.arr 3 (atL Nd.cs l x16.toNat 11).ln (atL Nd.cs l x16.toNat 11).fn)])]).length.ble
    (inv ok_ThS ea_ThS
        [(0, false, [C.tr false (T.arr 3 (atL Nd.cs l x16.toNat 11).ln (atL Nd.cs l x16.toNat 11).fn)])]).length &&
  true) <|
  gd ((inv ok_LI ea_LI
          [(0, false, [C.tr false (T.arr 1 (atL Nd.cs l x16.toNat 12).ln (atL Nd.cs l x16.toNat 12).fn)])]).length.ble
    (inv ok_LI ea_LI
        [(0, false, [C.tr false (T.arr 1 (atL Nd.cs l x16.toNat 12).ln (atL Nd.cs l x16.toNat 12).fn)])]).length &&
  true) <|
  gd ((0 + x16.toNat).blt nx12 && true && true) <|
  gd ((0 + x16.toNat).blt nx12 && true && true) <|
  gd ((0 + x16.toNat).blt nx12 && true && true) <|
  gd ((0 + x16.toNat).blt nx12 && true && true) <|
  gd ((0 + x16.toNat).blt nx12 && true && true) <|
  gd ((0 + x16.toNat).blt nx12 && true && true) <|
  gd ((0 + x16.toNat).blt nx12 && true && true) <|
  gd ((0 + x16.toNat).blt nx12 && true && true) <|
  gd ((0 + x16.toNat).blt nx12 && true && true) <|
  gd ((0 + x16.toNat).blt nx12 && true && true) <|
  gd ((0 + x16.toNat).blt nx12 && true && true) <|
  gd ((0 + x16.toNat).blt nx12 && true && true) <|
  gd ((0 + x16.toNat).blt nx12 && true && true) <|
  K .normal (st_toNdS_1 l (nx12) (setF (0 + x16.toNat) (1 + 1 + 1 + 1 + 1 + 1 + 1 + 1 + 1 + 1 + 1 + 1)
  (T.arr 1
    (inv ok_LI ea_LI
        [(0, false, [C.tr false (T.arr 1 (atL Nd.cs l x16.toNat 12).ln (atL Nd.cs l x16.toNat 12).fn)])]).length
    (atL rowI
      (inv ok_LI ea_LI
        [(0, false, [C.tr false (T.arr 1 (atL Nd.cs l x16.toNat 12).ln (atL Nd.cs l x16.toNat 12).fn)])])))
  (setF (0 + x16.toNat) (1 + 1 + 1 + 1 + 1 + 1 + 1 + 1 + 1 + 1 + 1)
    (T.arr 3
      (inv ok_ThS ea_ThS
          [(0, false, [C.tr false (T.arr 3 (atL Nd.cs l x16.toNat 11).ln (atL Nd.cs l x16.toNat 11).fn)])]).length
      (eL 3 Th.cs
          (inv ok_ThS ea_ThS
            [(0, false, [C.tr false (T.arr 3 (atL Nd.cs l x16.toNat 11).ln (atL Nd.cs l x16.toNat 11).fn)])])).fn)
    (setF (0 + x16.toNat) (1 + 1 + 1 + 1 + 1 + 1 + 1 + 1 + 1 + 1) (T.int IntKind.i64 (atL Nd.cs l x16.toNat 10).toI)
      (setF (0 + x16.toNat) (1 + 1 + 1 + 1 + 1 + 1 + 1 + 1 + 1) (T.int IntKind.i64 (atL Nd.cs l x16.toNat 9).toI)
        (setF (0 + x16.toNat) (1 + 1 + 1 + 1 + 1 + 1 + 1 + 1)
          (T.arr 1
            (inv ok_LI ea_LI
                [(0, false, [C.tr false (T.arr 1 (atL Nd.cs l x16.toNat 8).ln (atL Nd.cs l x16.toNat 8).fn)])]).length
            (atL rowI
              (inv ok_LI ea_LI
                [(0, false, [C.tr false (T.arr 1 (atL Nd.cs l x16.toNat 8).ln (atL Nd.cs l x16.toNat 8).fn)])])))
          (setF (0 + x16.toNat) (1 + 1 + 1 + 1 + 1 + 1 + 1) (T.int IntKind.i64 (atL Nd.cs l x16.toNat 7).toI)
            (setF (0 + x16.toNat) (1 + 1 + 1 + 1 + 1 + 1) (T.int IntKind.i64 (atL Nd.cs l x16.toNat 6).toI)
              (setF (0 + x16.toNat) (1 + 1 + 1 + 1 + 1) (T.int IntKind.i64 (atL Nd.cs l x16.toNat 5).toI)
                (setF (0 + x16.toNat) (1 + 1 + 1 + 1) (T.int IntKind.i64 (atL Nd.cs l x16.toNat 4).toI)
                  (setF (0 + x16.toNat) (1 + 1 + 1) (T.int IntKind.i64 (atL Nd.cs l x16.toNat 3).toI)
                    (setF (0 + x16.toNat) (1 + 1) (T.int IntKind.i64 (atL Nd.cs l x16.toNat 2).toI)
                      (setF (0 + x16.toNat) 1 (T.int IntKind.i64 (atL Nd.cs l x16.toNat 1).toI)
                        (setF (0 + x16.toNat) 0 (T.int IntKind.i64 (atL Nd.cs l x16.toNat 0).toI) fx12))))))))))))) (IntKind.i64.wrap (x16 + 1)))
 else
 K (.exit 0) (ex_toNdS_1_1 l nx12 fx12 x16)) := by kernel_rfl
theorem post_toNdS_1_1 (l : List Nd) (nx12 : Nat) (fx12 : Nat → Nat → T) (x16 : Int) (n : Nat) : contAt prog (tabS [(i_toNd, e_toNd)]) kp_toNdS F_toNdS ts_toNdS [1, 1, 0, 1, 0] [] n (.exit 0) (ex_toNdS_1_1 l nx12 fx12 x16) = (
 gd (nx12.ble nx12 && true) <|
 gd (nx12.ble nx12 && true) <|
 some ([(false, [.tr true (.arr (13) (nx12) (fx12))])], [(false, [])])) := by kernel_rfl
theorem pre_toNdS (l : List Nd) (n : Nat) : body prog (tabS [(i_toNd, e_toNd)]) kp_toNdS n F_toNdS [aT (eL 13 Nd.cs l)] = (
 gd (decide (0 ≤ (↑l.length : Int)) &&
  (decide ((↑l.length : Int) ≤ (↑l.length : Int)) &&
    (((↑l.length : Int).toNat * 152).ble 70368744177664 && (↑l.length : Int).toNat.ble 70368744177664))) <|
 gd ((↑l.length : Int).toNat.ble (↑l.length : Int).toNat && true) <|
 loopAt prog (tabS [(i_toNd, e_toNd)]) kp_toNdS F_toNdS [1, 1, 0, 1, 0] n n (st_toNdS_1 l ((↑l.length : Int).toNat) (cutT 0 (↑l.length : Int).toNat (zeroT prog 115)) (0)) (contAt prog (tabS [(i_toNd, e_toNd)]) kp_toNdS F_toNdS ts_toNdS [1, 1, 0, 1, 0] [] n)) := by kernel_rfl
theorem body_toNdS (l : List Nd) (hl : ok_NdS l) : body prog (tabS [(i_toNd, e_toNd)]) kp_toNdS (l.length + 1) F_toNdS (ea_NdS l) = some (erT 1 (eL 13 Nd.cs l)) := by
  have hl' : l.length ≤ LM := hl.1
  have hlm := lm
  unfold ea_NdS
  rw [pre_toNdS]
  simp only [ge0_d, Int.toNat_natCast, ble_d, Int.le_refl, Nat.le_refl, decide_true, Bool.and_true, Bool.true_and, gd_true]
  rw [decide_eq_true (show l.length * 152 ≤ 70368744177664 by omega), decide_eq_true (show l.length ≤ 70368744177664 by omega)]
  simp only [Bool.and_true, gd_true]
  rw [zero_fill (m := 13) (row := Nd.cs) (d := default) l.length (fun j k => by rcases k with _ | _ | _ | _ | _ | _ | _ | _ | _ | _ | _ | _ | _ | _ <;> kernel_rfl), ← fill_zero l default]
  have hst : st_toNdS_1 l l.length (atL Nd.cs (fill l default 0)) 0 = (fun i : Nat => st_toNdS_1 l l.length (atL Nd.cs (fill l default i)) (i : Nat)) 0 := rfl
  rw [hst, forLoop l.length (fun i : Nat => st_toNdS_1 l l.length (atL Nd.cs (fill l default i)) (i : Nat)) (ex_toNdS_1_1 l l.length (atL Nd.cs l) l.length) 0 (fun i K hi => ?_) (fun K => ?_) _ (Nat.le_refl _)]
  · rw [post_toNdS_1_1]
    simp only [ble_d, Nat.le_refl, decide_true, gd_true, Bool.and_true]
    rfl
  · have hx := List.getElem?_eq_getElem hi
    have h0 := (hl.2 _ (List.getElem_mem hi)).1
    have h1 := (hl.2 _ (List.getElem_mem hi)).2.1
    have h2 := (hl.2 _ (List.getElem_mem hi)).2.2
    have hd : (fill l default i)[i]? = some default := by
      unfold fill
      rw [List.getElem?_append_right (by simp; omega), List.getElem?_replicate, if_pos (by simp; omega)]
    rw [round_toNdS_1]
    simp only [lt_d, ge0_d, Int.toNat_natCast, blt_d, ble_self, beq_self, decide_true, cond_true, Bool.and_self, Bool.and_true, Bool.true_and, gd_true, Nat.zero_add, List.getD_cons_zero, List.getD_cons_succ, isI_int, toI_int, isB_bool, toB_bool, eL_T, arr_ln, arr_fn, arr_wd, arr_is, arr_get, hi, atL_of hx, Nd.cs, dm_toLI h0, iv_toLI h0, dm_toThS h1, iv_toThS h1, dm_toLI h2, iv_toLI h2]
    rw [wrapS (by omega), ← fill_set l default hx]
    congr 3
    refine set_atL (by rw [fill_len l default (by omega)]; exact hi) fun j' k' => ?_
    by_cases e : j' = i
    · subst e
      rcases k' with _ | _ | _ | _ | _ | _ | _ | _ | _ | _ | _ | _ | _ | k' <;> simp [setF_d, Nd.cs, atL_of hd, eL_T]
    · simp [setF_d, e]
  · rw [round_toNdS_1, fill_all]
    simp only [lt_d, Nat.lt_irrefl, decide_false, cond_false]
theorem s_toNdS : EntOk prog i_toNdS e_toNdS := ent_ok ea_NdS_inj fun l hl =>
  body_sound (φ := (tabS [(i_toNd, e_toNd)])) (tabS_cons s_toNd tabS_nil) mixed (kp := kp_toNdS) (n := l.length + 1) func39 (c := bodyOf F_toNdS) (by kernel_rfl) (body_toNdS l hl) (name_ok (by kernel_rfl))
def i_eqNdS : Nat := 46
noncomputable abbrev F_eqNdS : Func := f46
def kp_eqNdS : List (Nat × List Nat) := [(0, [0, 4]), (1, [0, 4, 40]), (2, [16]), (3, [0, 4, 20]), (4, [0, 4, 20, 56]), (5, [0, 4, 20]), (6, [0, 4, 20, 104]), (7, [16]), (8, [16])]
def ts_eqNdS : List Nat := [0, 0]
def st_eqNdS_1 (l r : List Nd) (x20 : Int) : St := [(0, ⟨z0, [(false, [.tr false (eL 13 Nd.cs l)])]⟩), (4, ⟨z0, [(false, [.tr false (eL 13 Nd.cs r)])]⟩), (20, ⟨z0, [(false, [.tr true (T.int IntKind.i64 x20)])]⟩)]
def ex_eqNdS_1_1 (l r : List Nd) (x20 : Int) : St := [(16, ⟨z0, [(false, [.tr true (T.bool false)])]⟩)]
def ex_eqNdS_1_2 (l r : List Nd) (x20 : Int) : St := [(0, ⟨z0, [(false, [.tr false (eL 13 Nd.cs l)])]⟩), (4, ⟨z0, [(false, [.tr false (eL 13 Nd.cs r)])]⟩), (20, ⟨z0, [(false, [.tr true (T.int IntKind.i64 x20)])]⟩), (56, ⟨z0, []⟩)]
theorem round_eqNdS_1 (l r : List Nd) (x20 : Int) (n : Nat) (K : Ex → St → Res) : roundAt prog (tabS [(i_eqNd, e_eqNd)]) kp_eqNdS F_eqNdS [1, 1, 0, 1, 0] n (st_eqNdS_1 l r x20) K = (
 bif decide (x20 < (↑l.length : Int)) then
  gd (decide (0 ≤ x20) && (x20.toNat.blt l.length && true)) <|
  gd (T.isI IntKind.i64 (atL Nd.cs l x20.toNat 0) && T.isI IntKind.i64 (atL Nd.cs l x20.toNat 1) &&
                      T.isI IntKind.i64 (atL Nd.cs l x20.toNat 2) &&
                    T.isI IntKind.i64 (atL Nd.cs l x20.toNat 3) &&
                  T.isI IntKind.i64 (atL Nd.cs l x20.toNat 4) &&
                T.isI IntKind.i64 (atL Nd.cs l x20.toNat 5) &&
              T.isI IntKind.i64 (atL Nd.cs l x20.toNat 6) &&
            T.isI IntKind.i64 (atL Nd.cs l x20.toNat 7) &&
          ((atL Nd.cs l x20.toNat 8).isArr && (atL Nd.cs l x20.toNat 8).wd.beq 1) &&
        T.isI IntKind.i64 (atL Nd.cs l x20.toNat 9) &&
      T.isI IntKind.i64 (atL Nd.cs l x20.toNat 10) &&
    ((atL Nd.cs l x20.toNat 11).isArr && (atL Nd.cs l x20.toNat 11).wd.beq 3) &&
  ((atL Nd.cs l x20.toNat 12).isArr && (atL Nd.cs l x20.toNat 12).wd.beq 1)) <|
  gd (decide (0 ≤ x20) && (x20.toNat.blt r.length && true)) <|
  gd (T.isI IntKind.i64 (atL Nd.cs r x20.toNat 0) && T.isI IntKind.i64 (atL Nd.cs r x20.toNat 1) &&
                      T.isI IntKind.i64 (atL Nd.cs r x20.toNat 2) &&
                    T.isI IntKind.i64 (atL Nd.cs r x20.toNat 3) &&
                  T.isI IntKind.i64 (atL Nd.cs r x20.toNat 4) &&
                T.isI IntKind.i64 (atL Nd.cs r x20.toNat 5) &&
              T.isI IntKind.i64 (atL Nd.cs r x20.toNat 6) &&
            T.isI IntKind.i64 (atL Nd.cs r x20.toNat 7) &&
          ((atL Nd.cs r x20.toNat 8).isArr && (atL Nd.cs r x20.toNat 8).wd.beq 1) &&
        T.isI IntKind.i64 (atL Nd.cs r x20.toNat 9) &&
      T.isI IntKind.i64 (atL Nd.cs r x20.toNat 10) &&
    ((atL Nd.cs r x20.toNat 11).isArr && (atL Nd.cs r x20.toNat 11).wd.beq 3) &&
  ((atL Nd.cs r x20.toNat 12).isArr && (atL Nd.cs r x20.toNat 12).wd.beq 1)) <|
  bif (atL Nd.cs l x20.toNat 0).toI != (atL Nd.cs r x20.toNat 0).toI then
   K .ret (ex_eqNdS_1_1 l r x20)
  else
  bif (atL Nd.cs l x20.toNat 1).toI != (atL Nd.cs r x20.toNat 1).toI then
   K .ret (ex_eqNdS_1_1 l r x20)
  else
  bif (atL Nd.cs l x20.toNat 2).toI != (atL Nd.cs r x20.toNat 2).toI then
   K .ret (ex_eqNdS_1_1 l r x20)
  else
  bif (atL Nd.cs l x20.toNat 3).toI != (atL Nd.cs r x20.toNat 3).toI then
   K .ret (ex_eqNdS_1_1 l r x20)
  else
  bif (atL Nd.cs l x20.toNat 4).toI != (atL Nd.cs r x20.toNat 4).toI then
   K .ret (ex_eqNdS_1_1 l r x20)
  else
  bif (atL Nd.cs l x20.toNat 5).toI != (atL Nd.cs r x20.toNat 5).toI then
   K .ret (ex_eqNdS_1_1 l r x20)
  else
  bif (atL Nd.cs l x20.toNat 6).toI != (atL Nd.cs r x20.toNat 6).toI then
   K .ret (ex_eqNdS_1_1 l r x20)
  else
  bif (atL Nd.cs l x20.toNat 7).toI != (atL Nd.cs r x20.toNat 7).toI then
   K .ret (ex_eqNdS_1_1 l r x20)
  else
  gd (dom ok2_LI ea2_LI
  [(0, false, [C.tr false (T.arr 1 (atL Nd.cs l x20.toNat 8).ln (atL Nd.cs l x20.toNat 8).fn)]),
    (0, false, [C.tr false (T.arr 1 (atL Nd.cs r x20.toNat 8).ln (atL Nd.cs r x20.toNat 8).fn)])]) <|
  bif !f_eqLI
    (inv ok2_LI ea2_LI
      [(0, false, [C.tr false (T.arr 1 (atL Nd.cs l x20.toNat 8).ln (atL Nd.cs l x20.toNat 8).fn)]),
        (0, false, [C.tr false (T.arr 1 (atL Nd.cs r x20.toNat 8).ln (atL Nd.cs r x20.toNat 8).fn)])]) then
   K .ret (ex_eqNdS_1_1 l r x20)
  else
  bif (atL Nd.cs l x20.toNat 9).toI != (atL Nd.cs r x20.toNat 9).toI then
   K .ret (ex_eqNdS_1_1 l r x20)
  else
  bif (atL Nd.cs l x20.toNat 10).toI != (atL Nd.cs r x20.toNat 10).toI then
   K .ret (ex_eqNdS_1_1 l r x20)
  else
  gd (dom ok2_ThS ea2_ThS
  [(0, false, [C.tr false (T.arr 3 (atL Nd.cs l x20.toNat 11).ln (atL Nd.cs l x20.toNat 11).fn)]),
    (0, false, [C.tr false (T.arr 3 (atL Nd.cs r x20.toNat 11).ln (atL Nd.cs r x20.toNat 11).fn)])]) <|
  bif !f_eqThS
    (inv ok2_ThS ea2_ThS
      [(0, false, [C.tr false (T.arr 3 (atL Nd.cs l x20.toNat 11).ln (atL Nd.cs l x20.toNat 11).fn)]),
        (0, false, [C.tr false (T.arr 3 (atL Nd.cs r x20.toNat 11).ln (atL Nd.cs r x20.toNat 11).fn)])]) then
   K .ret (ex_eqNdS_1_1 l r x20)
  else
  gd (dom ok2_LI ea2_LI
  [(0, false, [C.tr false (T.arr 1 (atL Nd.cs l x20.toNat 12).ln (atL Nd.cs l x20.toNat 12).fn)]),
    (0, false, [C.tr false (T.arr 1 (atL Nd.cs r x20.toNat 12).ln (atL Nd.cs r x20.toNat 12).fn)])]) <|
  bif !f_eqLI
    (inv ok2_LI ea2_LI
      [(0, false, [C.tr false (T.arr 1 (atL Nd.cs l x20.toNat 12).ln (atL Nd.cs l x20.toNat 12).fn)]),
        (0, false, [C.tr false (T.arr 1 (atL Nd.cs r x20.toNat 12).ln (atL Nd.cs r x20.toNat 12).fn)])]) then
   K .ret (ex_eqNdS_1_1 l r x20)
  else
  K .normal (st_eqNdS_1 l r (IntKind.i64.wrap (x20 + 1)))
 else
 K (.exit 0) (ex_eqNdS_1_2 l r x20)) := by kernel_rfl
theorem post_eqNdS_1_1 (l r : List Nd) (x20 : Int) (n : Nat) : contAt prog (tabS [(i_eqNd, e_eqNd)]) kp_eqNdS F_eqNdS ts_eqNdS [1, 1, 0, 1, 0] [] n .ret (ex_eqNdS_1_1 l r x20) = (
 some ([(false, [.tr true (T.bool false)])], [(false, []), (false, [])])) := by kernel_rfl
theorem post_eqNdS_1_2 (l r : List Nd) (x20 : Int) (n : Nat) : contAt prog (tabS [(i_eqNd, e_eqNd)]) kp_eqNdS F_eqNdS ts_eqNdS [1, 1, 0, 1, 0] [] n (.exit 0) (ex_eqNdS_1_2 l r x20) = (
 some ([(false, [.tr true (T.bool true)])], [(false, []), (false, [])])) := by kernel_rfl
theorem pre_eqNdS (l r : List Nd) (n : Nat) : body prog (tabS [(i_eqNd, e_eqNd)]) kp_eqNdS n F_eqNdS [aT (eL 13 Nd.cs l), aT (eL 13 Nd.cs r)] = (
 bif (↑l.length : Int) != (↑r.length : Int) then
  some ([(false, [.tr true (T.bool false)])], [(false, []), (false, [])])
 else
 loopAt prog (tabS [(i_eqNd, e_eqNd)]) kp_eqNdS F_eqNdS [1, 1, 0, 1, 0] n n (st_eqNdS_1 l r (0)) (contAt prog (tabS [(i_eqNd, e_eqNd)]) kp_eqNdS F_eqNdS ts_eqNdS [1, 1, 0, 1, 0] [] n)) := by kernel_rfl
theorem body_eqNdS (l r : List Nd) (hl : okq_NdS l) : body prog (tabS [(i_eqNd, e_eqNd)]) kp_eqNdS (l.length + 1) F_eqNdS (ea2_NdS (l, r)) = some (erB 2 (f_eqNdS (l, r))) := by
  have hbm := bm
  have hl' : l.length ≤ BM := hl.1
  unfold ea2_NdS f_eqNdS
  dsimp only
  rw [pre_eqNdS, int_ne]
  by_cases h : l.length = r.length
  · rw [decide_eq_true (by omega)]
    simp only [Bool.not_true, cond_false]
    have hst : st_eqNdS_1 l r 0 = (fun i : Nat => st_eqNdS_1 l r (i : Nat)) 0 := rfl
    rw [hst, eqS l r h (fun i : Nat => st_eqNdS_1 l r (i : Nat)) (fun i : Nat => ex_eqNdS_1_1 l r (i : Nat)) (ex_eqNdS_1_2 l r l.length) (fun i x y K hx hy => ?_) (fun K => ?_) (fun i => post_eqNdS_1_1 l r _ _) (post_eqNdS_1_2 l r _ _) _ (Nat.le_refl _)]
    · by_cases e : l = r
      · rw [if_pos e, decide_eq_true e]; rfl
      · rw [if_neg e, decide_eq_false e]; rfl
    · have hi := (List.getElem?_eq_some_iff.1 hx).1
      have hi' := (List.getElem?_eq_some_iff.1 hy).1
      have hxm : x ∈ l := List.mem_of_getElem? hx
      have h0 := (hl.2 _ hxm).1
      have h1 := (hl.2 _ hxm).2.1
      have h2 := (hl.2 _ hxm).2.2
      rw [round_eqNdS_1]
      simp only [lt_d, ge0_d, Int.toNat_natCast, blt_d, ble_self, beq_self, decide_true, cond_true, Bool.and_self, Bool.and_true, Bool.true_and, gd_true, Nat.zero_add, List.getD_cons_zero, List.getD_cons_succ, isI_int, toI_int, isB_bool, toB_bool, eL_T, arr_ln, arr_fn, arr_wd, arr_is, arr_get, hi, hi', atL_of hx, atL_of hy, Nd.cs, int_ne, bool_ne, bool_eq, dm_eqLI h0, iv_eqLI h0, d_eqLI, dm_eqThS h1, iv_eqThS h1, d_eqThS, dm_eqLI h2, iv_eqLI h2, d_eqLI, chain]
      rw [wrapS (by omega)]
      have hxy : (x.st = y.st ∧ x.gen = y.gen ∧ x.ep = y.ep ∧ x.up = y.up ∧ x.upEp = y.upEp ∧ x.first = y.first ∧ x.next = y.next ∧ x.prev = y.prev ∧ x.chunks = y.chunks ∧ x.cur = y.cur ∧ x.bump = y.bump ∧ x.things = y.things ∧ x.tags = y.tags) ↔ x = y := by
        rcases x with ⟨x0, x1, x2, x3, x4, x5, x6, x7, x8, x9, x10, x11, x12⟩
        rcases y with ⟨y0, y1, y2, y3, y4, y5, y6, y7, y8, y9, y10, y11, y12⟩
        simp [and_assoc]
      simp only [hxy]
    · rw [round_eqNdS_1]
      simp only [lt_d, Nat.lt_irrefl, decide_false, cond_false]
  · rw [decide_eq_false (by omega)]
    have : ¬ l = r := fun e => h (by rw [e])
    rw [decide_eq_false this]
    rfl
theorem s_eqNdS : EntOk prog i_eqNdS e_eqNdS := ent_ok ea2_NdS_inj fun x hx =>
  body_sound (φ := (tabS [(i_eqNd, e_eqNd)])) (tabS_cons s_eqNd tabS_nil) mixed (kp := kp_eqNdS) (n := x.1.length + 1) func46 (c := bodyOf F_eqNdS) (by kernel_rfl) (body_eqNdS x.1 x.2 hx) (name_ok (by kernel_rfl))
theorem dm_toNdS {l : List Nd} (h : ok_NdS l) : dom ok_NdS ea_NdS [(0, false, [C.tr false (T.arr 13 l.length (atL Nd.cs l))])] = true := dom_ea (ea := ea_NdS) (x := l) h
theorem iv_toNdS {l : List Nd} (h : ok_NdS l) : inv ok_NdS ea_NdS [(0, false, [C.tr false (T.arr 13 l.length (atL Nd.cs l))])] = l := inv_ea ea_NdS_inj (x := l) h
theorem dm_eqNdS {l r : List Nd} (h : okq_NdS l) : dom ok2_NdS ea2_NdS [(0, false, [C.tr false (T.arr 13 l.length (atL Nd.cs l))]), (0, false, [C.tr false (T.arr 13 r.length (atL Nd.cs r))])] = true := dom_ea (ea := ea2_NdS) (x := (l, r)) h
theorem iv_eqNdS {l r : List Nd} (h : okq_NdS l) : inv ok2_NdS ea2_NdS [(0, false, [C.tr false (T.arr 13 l.length (atL Nd.cs l))]), (0, false, [C.tr false (T.arr 13 r.length (atL Nd.cs r))])] = (l, r) := inv_ea ea2_NdS_inj (x := (l, r)) h
theorem d_eqNdS (l r : List Nd) : f_eqNdS (l, r) = decide (l = r) := rfl
def n1_NdS (x : Nd) : Nat := n_LI x.chunks + n_ThS x.things + n_LI x.tags
def n_NdS (l : List Nd) : Nat := l.length + cntL n1_NdS l
def okz_NdS (l : List Nd) : Prop := l.length ≤ ZM ∧ ∀ x ∈ l, okz_LI x.chunks ∧ okz_ThS x.things ∧ okz_LI x.tags
def okzz_NdS (x : List Nd × Int) : Prop := okz_NdS x.1 ∧ 0 ≤ x.2 ∧ x.2 ≤ LM
def eaz_NdS (x : List Nd × Int) : List Arg := [aT (eL 13 Nd.cs x.1), aI x.2]
def f_szNdS (x : List Nd × Int) : Int := if (n_NdS x.1 : Int) ≤ x.2 then x.2 - n_NdS x.1 else -1
noncomputable def e_szNdS : Ent := ent [] okzz_NdS eaz_NdS (erI 2) f_szNdS
theorem eaz_NdS_inj (x y : List Nd × Int) (h : eaz_NdS x = eaz_NdS y) : x = y := by
  simp only [eaz_NdS, aI, aT, List.cons.injEq, Prod.mk.injEq, true_and, and_true, C.tr.injEq, T.int.injEq] at h
  exact Prod.ext (eL_inj Nd.cs_inj h.1) h.2
theorem dm_szNdS {l : List Nd} {k : Int} (h : okzz_NdS (l, k)) : dom okzz_NdS eaz_NdS [(0, false, [C.tr false (T.arr 13 l.length (atL Nd.cs l))]), (0, false, [C.tr false (T.int IntKind.i64 k)])] = true := dom_ea (ea := eaz_NdS) (x := (l, k)) h
theorem iv_szNdS {l : List Nd} {k : Int} (h : okzz_NdS (l, k)) : inv okzz_NdS eaz_NdS [(0, false, [C.tr false (T.arr 13 l.length (atL Nd.cs l))]), (0, false, [C.tr false (T.int IntKind.i64 k)])] = (l, k) := inv_ea eaz_NdS_inj (x := (l, k)) h
theorem y_szNdS {l : List Nd} {k : Int} (h : (n_NdS l : Int) ≤ k) : f_szNdS (l, k) = k - n_NdS l := if_pos h
theorem n_szNdS {l : List Nd} {k : Int} (h : ¬ (n_NdS l : Int) ≤ k) : f_szNdS (l, k) = -1 := if_neg h
def i_szNdS : Nat := 32
noncomputable abbrev F_szNdS : Func := f32
def kp_szNdS : List (Nat × List Nat) := [(0, [0, 4]), (1, [0, 4]), (2, [0, 4, 44]), (3, [16]), (4, [0, 4, 20]), (5, [0, 4, 20, 60]), (6, [0, 4, 20]), (7, [0, 4, 20]), (8, [0, 4, 20, 100]), (9, [16]), (10, [16])]
def ts_szNdS : List Nat := [0, 0]
def st_szNdS_1 (l : List Nd) (k : Int) (x4 : Int) (x20 : Int) : St := [(0, ⟨z0, [(false, [.tr false (eL 13 Nd.cs l)])]⟩), (4, ⟨z0, [(false, [.tr true (T.int IntKind.i64 x4)])]⟩), (20, ⟨z0, [(false, [.tr true (T.int IntKind.i64 x20)])]⟩)]
def ex_szNdS_1_1 (l : List Nd) (k : Int) (x4 : Int) (x20 : Int) : St := [(16, ⟨z0, [(false, [.tr true (T.int IntKind.i64 (-1))])]⟩)]
def ex_szNdS_1_2 (l : List Nd) (k : Int) (x4 : Int) (x20 : Int) : St := [(0, ⟨z0, [(false, [.tr false (eL 13 Nd.cs l)])]⟩), (4, ⟨z0, [(false, [.tr true (T.int IntKind.i64 x4)])]⟩), (20, ⟨z0, [(false, [.tr true (T.int IntKind.i64 x20)])]⟩), (60, ⟨z0, []⟩)]
theorem round_szNdS_1 (l : List Nd) (k : Int) (x4 : Int) (x20 : Int) (n : Nat) (K : Ex → St → Res) : roundAt prog (tabS [(i_szNd, e_szNd)]) kp_szNdS F_szNdS [1, 1, 1, 0, 1, 0] n (st_szNdS_1 l k x4 x20) K = (
 bif decide (x20 < (↑l.length : Int)) then
  gd (decide (0 ≤ x20) && (x20.toNat.blt l.length && true)) <|
  gd (T.isI IntKind.i64 (atL Nd.cs l x20.toNat 0) && T.isI IntKind.i64 (atL Nd.cs l x20.toNat 1) &&
                      T.isI IntKind.i64 (atL Nd.cs l x20.toNat 2) &&
                    T.isI IntKind.i64 (atL Nd.cs l x20.toNat 3) &&
                  T.isI IntKind.i64 (atL Nd.cs l x20.toNat 4) &&
                T.isI IntKind.i64 (atL Nd.cs l x20.toNat 5) &&
              T.isI IntKind.i64 (atL Nd.cs l x20.toNat 6) &&
            T.isI IntKind.i64 (atL Nd.cs l x20.toNat 7) &&
          ((atL Nd.cs l x20.toNat 8).isArr && (atL Nd.cs l x20.toNat 8).wd.beq 1) &&
        T.isI IntKind.i64 (atL Nd.cs l x20.toNat 9) &&
      T.isI IntKind.i64 (atL Nd.cs l x20.toNat 10) &&
    ((atL Nd.cs l x20.toNat 11).isArr && (atL Nd.cs l x20.toNat 11).wd.beq 3) &&
  ((atL Nd.cs l x20.toNat 12).isArr && (atL Nd.cs l x20.toNat 12).wd.beq 1)) <|
  bif decide (IntKind.i64.wrap (x4 - (↑(atL Nd.cs l x20.toNat 8).ln : Int)) < 0) then
   K .ret (ex_szNdS_1_1 l k x4 x20)
  else
  bif decide (IntKind.i64.wrap (x4 - (↑(atL Nd.cs l x20.toNat 8).ln : Int)) < 0) then
   K .ret (ex_szNdS_1_1 l k x4 x20)
  else
  bif decide
  (IntKind.i64.wrap
      (IntKind.i64.wrap (x4 - (↑(atL Nd.cs l x20.toNat 8).ln : Int)) - (↑(atL Nd.cs l x20.toNat 11).ln : Int)) <
    0) then
   K .ret (ex_szNdS_1_1 l k x4 x20)
  else
  bif decide
  (IntKind.i64.wrap
      (IntKind.i64.wrap (x4 - (↑(atL Nd.cs l x20.toNat 8).ln : Int)) - (↑(atL Nd.cs l x20.toNat 11).ln : Int)) <
    0) then
   K .ret (ex_szNdS_1_1 l k x4 x20)
  else
  bif decide
  (IntKind.i64.wrap
      (IntKind.i64.wrap
          (IntKind.i64.wrap (x4 - (↑(atL Nd.cs l x20.toNat 8).ln : Int)) - (↑(atL Nd.cs l x20.toNat 11).ln : Int)) -
        (↑(atL Nd.cs l x20.toNat 12).ln : Int)) <
    0) then
   K .ret (ex_szNdS_1_1 l k x4 x20)
  else
  bif decide
  (IntKind.i64.wrap
      (IntKind.i64.wrap
          (IntKind.i64.wrap (x4 - (↑(atL Nd.cs l x20.toNat 8).ln : Int)) - (↑(atL Nd.cs l x20.toNat 11).ln : Int)) -
        (↑(atL Nd.cs l x20.toNat 12).ln : Int)) <
    0) then
   K .ret (ex_szNdS_1_1 l k x4 x20)
  else
  bif decide
  (IntKind.i64.wrap
      (IntKind.i64.wrap
          (IntKind.i64.wrap (x4 - (↑(atL Nd.cs l x20.toNat 8).ln : Int)) - (↑(atL Nd.cs l x20.toNat 11).ln : Int)) -
        (↑(atL Nd.cs l x20.toNat 12).ln : Int)) <
    0) then
   K .ret (ex_szNdS_1_1 l k x4 x20)
  else
  K .normal (st_szNdS_1 l k (IntKind.i64.wrap
  (IntKind.i64.wrap
      (IntKind.i64.wrap (x4 - (↑(atL Nd.cs l x20.toNat 8).ln : Int)) - (↑(atL Nd.cs l x20.toNat 11).ln : Int)) -
    (↑(atL Nd.cs l x20.toNat 12).ln : Int))) (IntKind.i64.wrap (x20 + 1)))
 else
 K (.exit 0) (ex_szNdS_1_2 l k x4 x20)) := by kernel_rfl
theorem post_szNdS_1_1 (l : List Nd) (k : Int) (x4 : Int) (x20 : Int) (n : Nat) : contAt prog (tabS [(i_szNd, e_szNd)]) kp_szNdS F_szNdS ts_szNdS [1, 1, 1, 0, 1, 0] [] n .ret (ex_szNdS_1_1 l k x4 x20) = (
 some ([(false, [.tr true (T.int IntKind.i64 (-1))])], [(false, []), (false, [])])) := by kernel_rfl
theorem post_szNdS_1_2 (l : List Nd) (k : Int) (x4 : Int) (x20 : Int) (n : Nat) : contAt prog (tabS [(i_szNd, e_szNd)]) kp_szNdS F_szNdS ts_szNdS [1, 1, 1, 0, 1, 0] [] n (.exit 0) (ex_szNdS_1_2 l k x4 x20) = (
 some ([(false, [.tr true (T.int IntKind.i64 x4)])], [(false, []), (false, [])])) := by kernel_rfl
theorem pre_szNdS (l : List Nd) (k : Int) (n : Nat) : body prog (tabS [(i_szNd, e_szNd)]) kp_szNdS n F_szNdS [aT (eL 13 Nd.cs l), aI k] = (
 bif decide (IntKind.i64.wrap (k - (↑l.length : Int)) < 0) then
  some ([(false, [.tr true (T.int IntKind.i64 (-1))])], [(false, []), (false, [])])
 else
 loopAt prog (tabS [(i_szNd, e_szNd)]) kp_szNdS F_szNdS [1, 1, 1, 0, 1, 0] n n (st_szNdS_1 l k (IntKind.i64.wrap (k - (↑l.length : Int))) (0)) (contAt prog (tabS [(i_szNd, e_szNd)]) kp_szNdS F_szNdS ts_szNdS [1, 1, 1, 0, 1, 0] [] n)) := by kernel_rfl
theorem round1_szNdS (l : List Nd) (k : Int) (hl : okz_NdS l) {n : Nat} (i : Nat) (x : Nd) (K : Ex → St → Res) (hx : l[i]? = some x) (hr : (cntL n1_NdS (l.take i) : Int) ≤ k - (l.length : Int)) (hk1 : k ≤ LM) : roundAt prog (tabS [(i_szNd, e_szNd)]) kp_szNdS F_szNdS [1, 1, 1, 0, 1, 0] n (st_szNdS_1 l k (k - (l.length : Int) - cntL n1_NdS (l.take i)) (i : Nat)) K = bif decide (k - (l.length : Int) - cntL n1_NdS (l.take i) < n1_NdS x) then K .ret (ex_szNdS_1_1 l k (k - (l.length : Int) - cntL n1_NdS (l.take i)) (i : Nat)) else K .normal (st_szNdS_1 l k (k - (l.length : Int) - cntL n1_NdS (l.take (i + 1))) ((i + 1 : Nat) : Int)) := by
    have hzm := zm
    have hlm := lm
    have hl' : l.length ≤ ZM := hl.1
    have hi := (List.getElem?_eq_some_iff.1 hx).1
    have hxm : x ∈ l := List.mem_of_getElem? hx
    have hc := cntL_take n1_NdS l hx
    have hcx : n1_NdS x = x.chunks.length + x.things.length + x.tags.length := rfl
    rw [hc, round_szNdS_1]
    obtain ⟨k0, hk⟩ : ∃ k0, k0 = k - (l.length : Int) - (cntL n1_NdS (l.take i) : Int) := ⟨_, rfl⟩
    have hk2 : k - (l.length : Int) - ((cntL n1_NdS (l.take i) + n1_NdS x : Nat) : Int) = k0 - (x.chunks.length : Int) - (x.things.length : Int) - (x.tags.length : Int) := by omega
    rw [hk2, ← hk]
    have hk3 : 0 ≤ k0 := by omega
    have hk4 : k0 ≤ LM := by omega
    simp (disch := omega) only [lt_d, ge0_d, Int.toNat_natCast, blt_d, ble_self, beq_self, decide_true, cond_true, Bool.and_self, Bool.and_true, Bool.true_and, gd_true, Nat.zero_add, List.getD_cons_zero, List.getD_cons_succ, isI_int, toI_int, isB_bool, toB_bool, eL_T, arr_ln, arr_fn, arr_wd, arr_is, arr_get, hi, atL_of hx, Nd.cs, wrapS]
    have h0 : x.chunks.length ≤ ZM := (hl.2 _ hxm).1
    have h1 : x.things.length ≤ ZM := (hl.2 _ hxm).2.1
    have h2 : x.tags.length ≤ ZM := (hl.2 _ hxm).2.2
    try simp (disch := omega) only [wrapI]
    by_cases e0 : k0 - (x.chunks.length : Int) < 0
    case pos =>
      rw [decide_eq_true e0, decide_eq_true (show k0 < (n1_NdS x : Int) by omega)]
      rfl
    simp (disch := omega) only [decide_eq_false e0, cond_false, wrapI]
    try simp (disch := omega) only [wrapI]
    by_cases e1 : k0 - (x.chunks.length : Int) - (x.things.length : Int) < 0
    case pos =>
      rw [decide_eq_true e1, decide_eq_true (show k0 < (n1_NdS x : Int) by omega)]
      rfl
    simp (disch := omega) only [decide_eq_false e1, cond_false, wrapI]
    try simp (disch := omega) only [wrapI]
    by_cases e2 : k0 - (x.chunks.length : Int) - (x.things.length : Int) - (x.tags.length : Int) < 0
    case pos =>
      rw [decide_eq_true e2, decide_eq_true (show k0 < (n1_NdS x : Int) by omega)]
      rfl
    simp (disch := omega) only [decide_eq_false e2, cond_false, wrapI]
    rw [decide_eq_false (show ¬ k0 < (n1_NdS x : Int) by omega)]
    simp only [cond_false]
    try congr 2
    try omega
theorem body_szNdS (l : List Nd) (k : Int) (h : okzz_NdS (l, k)) : body prog (tabS [(i_szNd, e_szNd)]) kp_szNdS (l.length + 1) F_szNdS (eaz_NdS (l, k)) = some (erI 2 (f_szNdS (l, k))) := by
  obtain ⟨hl, hk0, hk1⟩ := h
  have hzm := zm
  have hlm := lm
  dsimp only at hl hk0 hk1
  have hl' : l.length ≤ ZM := hl.1
  have hn : n_NdS l = l.length + cntL n1_NdS l := rfl
  unfold eaz_NdS f_szNdS
  dsimp only
  rw [pre_szNdS]
  simp (disch := omega) only [wrapI]
  by_cases hs : k - (l.length : Int) < 0
  · rw [decide_eq_true hs, if_neg (by omega)]
    rfl
  · rw [decide_eq_false hs]
    simp only [cond_false]
    have hst : st_szNdS_1 l k (k - (l.length : Int)) 0 = (fun i : Nat => st_szNdS_1 l k (k - (l.length : Int) - cntL n1_NdS (l.take i)) (i : Nat)) 0 := by simp [cntL]
    rw [hst, szS n1_NdS l (k - (l.length : Int)) (by omega) (fun i : Nat => st_szNdS_1 l k (k - (l.length : Int) - cntL n1_NdS (l.take i)) (i : Nat)) (fun i : Nat => ex_szNdS_1_1 l k (k - (l.length : Int) - cntL n1_NdS (l.take i)) (i : Nat)) (ex_szNdS_1_2 l k (k - (l.length : Int) - cntL n1_NdS l) l.length) (fun i x K hx hr => ?_) (fun K hr => ?_) (fun i => post_szNdS_1_1 l k _ _ _) (post_szNdS_1_2 l k _ _ _) _ (Nat.le_refl _)]
    · by_cases hq : (cntL n1_NdS l : Int) ≤ k - (l.length : Int)
      · rw [if_pos hq, if_pos (by omega), show k - (l.length : Int) - (cntL n1_NdS l : Int) = k - (n_NdS l : Int) by omega]
        rfl
      · rw [if_neg hq, if_neg (by omega)]
        rfl
    · exact round1_szNdS l k hl i x K hx hr hk1
    · rw [round_szNdS_1]
      simp only [lt_d, Nat.lt_irrefl, decide_false, cond_false, List.take_length]
theorem s_szNdS : EntOk prog i_szNdS e_szNdS := ent_ok eaz_NdS_inj fun x hx =>
  body_sound (φ := (tabS [(i_szNd, e_szNd)])) (tabS_cons s_szNd tabS_nil) mixed (kp := kp_szNdS) (n := x.1.length + 1) func32 (c := bodyOf F_szNdS) (by kernel_rfl) (body_szNdS x.1 x.2 hx) (name_ok (by kernel_rfl))
theorem Ws.cs_inj (x y : Ws) (h : ∀ k, x.cs.getD k .hole = y.cs.getD k .hole) : x = y := by
  have h0 := h 0; have h1 := h 1; have h2 := h 2; have h3 := h 3; have h4 := h 4
  rcases x with ⟨x0, x1, x2, x3, x4⟩
  rcases y with ⟨y0, y1, y2, y3, y4⟩
  simp only [Ws.cs, List.getD_cons_zero, List.getD_cons_succ, T.int.injEq, T.bool.injEq, true_and] at h0 h1 h2 h3 h4
  replace h2 := eI_inj h2
  replace h3 := eI_inj h3
  subst h0; subst h1; subst h2; subst h3; subst h4
  rfl
def i_toWs : Nat := 85
noncomputable abbrev F_toWs : Func := f85
def kp_toWs : List (Nat × List Nat) := [(0, [4, 5, 8, 9, 12, 13, 84]), (1, [4, 5, 8, 9, 12, 13, 84]), (2, [4, 5, 8, 9, 12, 13, 84]), (3, [4, 5, 8, 9, 12, 13, 84]), (4, [4, 5, 8, 9, 12, 13, 84]), (5, [4, 5, 8, 9, 12, 13, 84]), (6, [8, 9, 12, 13, 84]), (7, [8, 9, 12, 13, 84])]
noncomputable def e_toWs : Ent := inl [] prog (tabS [(i_toLI, e_toLI)]) kp_toWs 0 F_toWs
theorem s_toWs : EntOk prog i_toWs e_toWs := inl_ok (tabS_cons s_toLI tabS_nil) mixed (c := bodyOf F_toWs) func85 (by kernel_rfl) (name_ok (by kernel_rfl))
def i_eqWs : Nat := 90
noncomputable abbrev F_eqWs : Func := f90
def kp_eqWs : List (Nat × List Nat) := [(0, [8, 9, 12, 13]), (1, [8, 9, 12, 13, 36]), (2, [16]), (3, [8, 9, 12, 13, 56]), (4, [16]), (5, [8, 9, 12, 13, 80]), (6, [16]), (7, [8, 9, 12, 13, 104]), (8, [16]), (9, [124]), (10, [16]), (11, [16])]
noncomputable def e_eqWs : Ent := inl [] prog (tabS [(i_eqLI, e_eqLI)]) kp_eqWs 0 F_eqWs
theorem s_eqWs : EntOk prog i_eqWs e_eqWs := inl_ok (tabS_cons s_eqLI tabS_nil) mixed (c := bodyOf F_eqWs) func90 (by kernel_rfl) (name_ok (by kernel_rfl))
def i_szWs : Nat := 80
noncomputable abbrev F_szWs : Func := f80
def kp_szWs : List (Nat × List Nat) := [(0, [4, 8, 9]), (1, [4, 8, 9]), (2, [4, 8, 9, 40]), (3, [16]), (4, [4]), (5, [4, 64]), (6, [16]), (7, [16])]
noncomputable def e_szWs : Ent := inl [] prog (tabS [(i_szLI, e_szLI)]) kp_szWs 0 F_szWs
theorem s_szWs : EntOk prog i_szWs e_szWs := inl_ok (tabS_cons s_szLI tabS_nil) mixed (c := bodyOf F_szWs) func80 (by kernel_rfl) (name_ok (by kernel_rfl))
def ok_WsS (l : List Ws) : Prop := l.length ≤ LM ∧ ∀ x ∈ l, ok_LI x.tags ∧ ok_LI x.chunks
def ea_WsS (l : List Ws) : List Arg := [aT (eL 5 Ws.cs l)]
noncomputable def e_toWsS : Ent := ent [] ok_WsS ea_WsS (fun l => erT 1 (eL 5 Ws.cs l)) fun l => l
def okq_WsS (l : List Ws) : Prop := l.length ≤ BM ∧ ∀ x ∈ l, okq_LI x.tags ∧ okq_LI x.chunks
def ok2_WsS (x : List Ws × List Ws) : Prop := okq_WsS x.1
def ea2_WsS (x : List Ws × List Ws) : List Arg := [aT (eL 5 Ws.cs x.1), aT (eL 5 Ws.cs x.2)]
def f_eqWsS (x : List Ws × List Ws) : Bool := decide (x.1 = x.2)
noncomputable def e_eqWsS : Ent := ent [] ok2_WsS ea2_WsS (erB 2) f_eqWsS
theorem ea_WsS_inj (x y : List Ws) (h : ea_WsS x = ea_WsS y) : x = y := by
  simp only [ea_WsS, aT, List.cons.injEq, Prod.mk.injEq, true_and, and_true, C.tr.injEq] at h
  exact eL_inj Ws.cs_inj h
theorem ea2_WsS_inj (x y : List Ws × List Ws) (h : ea2_WsS x = ea2_WsS y) : x = y := by
  simp only [ea2_WsS, aT, List.cons.injEq, Prod.mk.injEq, true_and, and_true, C.tr.injEq] at h
  exact Prod.ext (eL_inj Ws.cs_inj h.1) (eL_inj Ws.cs_inj h.2)
def i_toWsS : Nat := 40
noncomputable abbrev F_toWsS : Func := f40
def kp_toWsS : List (Nat × List Nat) := [(0, [0]), (1, [0, 12]), (2, [0, 12, 16]), (3, [0, 12, 16, 44]), (4, [0, 12, 16]), (5, [0, 12, 16]), (6, [8])]
def ts_toWsS : List Nat := [0]
def st_toWsS_1 (l : List Ws) (nx12 : Nat) (fx12 : Nat → Nat → T) (x16 : Int) : St := [(0, ⟨z0, [(false, [.tr false (eL 5 Ws.cs l)])]⟩), (12, ⟨z0, [(false, [.tr true (.arr (5) (nx12) (fx12))])]⟩), (16, ⟨z0, [(false, [.tr true (T.int IntKind.i64 x16)])]⟩)]
def ex_toWsS_1_1 (l : List Ws) (nx12 : Nat) (fx12 : Nat → Nat → T) (x16 : Int) : St := [(0, ⟨z0, [(false, [.tr false (eL 5 Ws.cs l)])]⟩), (12, ⟨z0, [(false, [.tr true (.arr (5) (nx12) (fx12))])]⟩), (16, ⟨z0, [(false, [.tr true (T.int IntKind.i64 x16)])]⟩), (44, ⟨z0, []⟩)]
theorem round_toWsS_1 (l : List Ws) (nx12 : Nat) (fx12 : Nat → Nat → T) (x16 : Int) (n : Nat) (K : Ex → St → Res) : roundAt prog (tabS [(i_toWs, e_toWs)]) kp_toWsS F_toWsS [1, 1, 0, 1, 0] n (st_toWsS_1 l nx12 fx12 x16) K = (
 bif decide (x16 < (↑l.length : Int)) then
  gd (decide (0 ≤ x16) && (x16.toNat.blt l.length && true)) <|
  gd (T.isI IntKind.i64 (atL Ws.cs l x16.toNat 0) && T.isI IntKind.i64 (atL Ws.cs l x16.toNat 1) &&
      ((atL Ws.cs l x16.toNat 2).isArr && (atL Ws.cs l x16.toNat 2).wd.beq 1) &&
    ((atL Ws.cs l x16.toNat 3).isArr && (atL Ws.cs l x16.toNat 3).wd.beq 1) &&
  T.isI IntKind.i64 (atL Ws.cs l x16.toNat 4)) <|
  gd (dom ok_LI ea_LI [(0, false, [C.tr false (T.arr 1 (atL Ws.cs l x16.toNat 2).ln (atL Ws.cs l x16.toNat 2).fn)])]) <|
  gd ((inv ok_LI ea_LI
          [(0, false, [C.tr false (T.arr 1 (atL Ws.cs l x16.toNat 2).ln (atL Ws.cs l x16.toNat 2).fn)])]).length.ble
    (inv ok_LI ea_LI
        [(0, false, [C.tr false (T.arr 1 (atL Ws.cs l x16.toNat 2).ln (atL Ws.cs l x16.toNat 2).fn)])]).length &&
  true) <|
  gd (dom ok_LI ea_LI [(0, false, [C.tr false (T.arr 1 (atL Ws.cs l x16.toNat 3).ln (atL Ws.cs l x16.toNat 3).fn)])]) <|
  gd ((inv ok_LI ea_LI
          [(0, false, [C.tr false (T.arr 1 (atL Ws.cs l x16.toNat 3).ln (atL Ws.cs l x16.toNat 3).fn)])]).length.ble
    (inv ok_LI ea_LI
        [(0, false, [C.tr false (T.arr 1 (atL Ws.cs l x16.toNat 3).ln (atL Ws.cs l x16.toNat 3).fn)])]).length &&
  true) <|
  gd ((inv ok_LI ea_LI
          [(0, false, [C.tr false (T.arr 1 (atL Ws.cs l x16.toNat 2).ln (atL Ws.cs l x16.toNat 2).fn)])]).length.ble
    (inv ok_LI ea_LI
        [(0, false, [C.tr false (T.arr 1 (atL Ws.cs l x16.toNat 2).ln (atL Ws.cs l x16.toNat 2).fn)])]).length &&
  true) <|
  gd ((inv ok_LI ea_LI
          [(0, false, [C.tr false (T.arr 1 (atL Ws.cs l x16.toNat 3).ln (atL Ws.cs l x16.toNat 3).fn)])]).length.ble
    (inv ok_LI ea_LI
        [(0, false, [C.tr false (T.arr 1 (atL Ws.cs l x16.toNat 3).ln (atL Ws.cs l x16.toNat 3).fn)])]).length &&
  true) <|
  gd ((inv ok_LI ea_LI
          [(0, false, [C.tr false (T.arr 1 (atL Ws.cs l x16.toNat 2).ln (atL Ws.cs l x16.toNat 2).fn)])]).length.ble
    (inv ok_LI ea_LI
        [(0, false, [C.tr false (T.arr 1 (atL Ws.cs l x16.toNat 2).ln (atL Ws.cs l x16.toNat 2).fn)])]).length &&
  true) <|
  gd ((inv ok_LI ea_LI
          [(0, false, [C.tr false (T.arr 1 (atL Ws.cs l x16.toNat 3).ln (atL Ws.cs l x16.toNat 3).fn)])]).length.ble
    (inv ok_LI ea_LI
        [(0, false, [C.tr false (T.arr 1 (atL Ws.cs l x16.toNat 3).ln (atL Ws.cs l x16.toNat 3).fn)])]).length &&
  true) <|
  gd (decide (0 ≤ x16) && (x16.toNat.blt nx12 && true)) <|
  gd ((inv ok_LI ea_LI
          [(0, false, [C.tr false (T.arr 1 (atL Ws.cs l x16.toNat 2).ln (atL Ws.cs l x16.toNat 2).fn)])]).length.ble
    (inv ok_LI ea_LI
        [(0, false, [C.tr false (T.arr 1 (atL Ws.cs l x16.toNat 2).ln (atL Ws.cs l x16.toNat 2).fn)])]).length &&
  true) <|
  gd ((inv ok_LI ea_LI
          [(0, false, [C.tr false (T.arr 1 (atL Ws.cs l x16.toNat 3).ln (atL Ws.cs l x16.toNat 3).fn)])]).length.ble
    (inv ok_LI ea_LI
        [(0, false, [C.tr false (T.arr 1 (atL Ws.cs l x16.toNat 3).ln (atL Ws.cs l x16.toNat 3).fn)])]).length &&
  true) <|
  gd ((0 + x16.toNat).blt nx12 && true && true) <|
  gd ((0 + x16.toNat).blt nx12 && true && true) <|
  gd ((0 + x16.toNat).blt nx12 && true && true) <|
  gd ((0 + x16.toNat).blt nx12 && true && true) <|
  gd ((0 + x16.toNat).blt nx12 && true && true) <|
  K .normal (st_toWsS_1 l (nx12) (setF (0 + x16.toNat) (1 + 1 + 1 + 1) (T.int IntKind.i64 (atL Ws.cs l x16.toNat 4).toI)
  (setF (0 + x16.toNat) (1 + 1 + 1)
    (T.arr 1
      (inv ok_LI ea_LI
          [(0, false, [C.tr false (T.arr 1 (atL Ws.cs l x16.toNat 3).ln (atL Ws.cs l x16.toNat 3).fn)])]).length
      (atL rowI
        (inv ok_LI ea_LI
          [(0, false, [C.tr false (T.arr 1 (atL Ws.cs l x16.toNat 3).ln (atL Ws.cs l x16.toNat 3).fn)])])))
    (setF (0 + x16.toNat) (1 + 1)
      (T.arr 1
        (inv ok_LI ea_LI
            [(0, false, [C.tr false (T.arr 1 (atL Ws.cs l x16.toNat 2).ln (atL Ws.cs l x16.toNat 2).fn)])]).length
        (atL rowI
          (inv ok_LI ea_LI
            [(0, false, [C.tr false (T.arr 1 (atL Ws.cs l x16.toNat 2).ln (atL Ws.cs l x16.toNat 2).fn)])])))
      (setF (0 + x16.toNat) 1 (T.int IntKind.i64 (atL Ws.cs l x16.toNat 1).toI)
        (setF (0 + x16.toNat) 0 (T.int IntKind.i64 (atL Ws.cs l x16.toNat 0).toI) fx12))))) (IntKind.i64.wrap (x16 + 1)))
 else
 K (.exit 0) (ex_toWsS_1_1 l nx12 fx12 x16)) := by kernel_rfl
theorem post_toWsS_1_1 (l : List Ws) (nx12 : Nat) (fx12 : Nat → Nat → T) (x16 : Int) (n : Nat) : contAt prog (tabS [(i_toWs, e_toWs)]) kp_toWsS F_toWsS ts_toWsS [1, 1, 0, 1, 0] [] n (.exit 0) (ex_toWsS_1_1 l nx12 fx12 x16) = (
 gd (nx12.ble nx12 && true) <|
 gd (nx12.ble nx12 && true) <|
 some ([(false, [.tr true (.arr (5) (nx12) (fx12))])], [(false, [])])) := by kernel_rfl
theorem pre_toWsS (l : List Ws) (n : Nat) : body prog (tabS [(i_toWs, e_toWs)]) kp_toWsS n F_toWsS [aT (eL 5 Ws.cs l)] = (
 gd (decide (0 ≤ (↑l.length : Int)) &&
  (decide ((↑l.length : Int) ≤ (↑l.length : Int)) &&
    (((↑l.length : Int).toNat * 72).ble 70368744177664 && (↑l.length : Int).toNat.ble 70368744177664))) <|
 gd ((↑l.length : Int).toNat.ble (↑l.length : Int).toNat && true) <|
 loopAt prog (tabS [(i_toWs, e_toWs)]) kp_toWsS F_toWsS [1, 1, 0, 1, 0] n n (st_toWsS_1 l ((↑l.length : Int).toNat) (cutT 0 (↑l.length : Int).toNat (zeroT prog 117)) (0)) (contAt prog (tabS [(i_toWs, e_toWs)]) kp_toWsS F_toWsS ts_toWsS [1, 1, 0, 1, 0] [] n)) := by kernel_rfl
theorem body_toWsS (l : List Ws) (hl : ok_WsS l) : body prog (tabS [(i_toWs, e_toWs)]) kp_toWsS (l.length + 1) F_toWsS (ea_WsS l) = some (erT 1 (eL 5 Ws.cs l)) := by
  have hl' : l.length ≤ LM := hl.1
  have hlm := lm
  unfold ea_WsS
  rw [pre_toWsS]
  simp only [ge0_d, Int.toNat_natCast, ble_d, Int.le_refl, Nat.le_refl, decide_true, Bool.and_true, Bool.true_and, gd_true]
  rw [decide_eq_true (show l.length * 72 ≤ 70368744177664 by omega), decide_eq_true (show l.length ≤ 70368744177664 by omega)]
  simp only [Bool.and_true, gd_true]
  rw [zero_fill (m := 5) (row := Ws.cs) (d := default) l.length (fun j k => by rcases k with _ | _ | _ | _ | _ | _ <;> kernel_rfl), ← fill_zero l default]
  have hst : st_toWsS_1 l l.length (atL Ws.cs (fill l default 0)) 0 = (fun i : Nat => st_toWsS_1 l l.length (atL Ws.cs (fill l default i)) (i : Nat)) 0 := rfl
  rw [hst, forLoop l.length (fun i : Nat => st_toWsS_1 l l.length (atL Ws.cs (fill l default i)) (i : Nat)) (ex_toWsS_1_1 l l.length (atL Ws.cs l) l.length) 0 (fun i K hi => ?_) (fun K => ?_) _ (Nat.le_refl _)]
  · rw [post_toWsS_1_1]
    simp only [ble_d, Nat.le_refl, decide_true, gd_true, Bool.and_true]
    rfl
  · have hx := List.getElem?_eq_getElem hi
    have h0 := (hl.2 _ (List.getElem_mem hi)).1
    have h1 := (hl.2 _ (List.getElem_mem hi)).2
    have hd : (fill l default i)[i]? = some default := by
      unfold fill
      rw [List.getElem?_append_right (by simp; omega), List.getElem?_replicate, if_pos (by simp; omega)]
    rw [round_toWsS_1]
    simp only [lt_d, ge0_d, Int.toNat_natCast, blt_d, ble_self, beq_self, decide_true, cond_true, Bool.and_self, Bool.and_true, Bool.true_and, gd_true, Nat.zero_add, List.getD_cons_zero, List.getD_cons_succ, isI_int, toI_int, isB_bool, toB_bool, eL_T, arr_ln, arr_fn, arr_wd, arr_is, arr_get, hi, atL_of hx, Ws.cs, dm_toLI h0, iv_toLI h0, dm_toLI h1, iv_toLI h1]
    rw [wrapS (by omega), ← fill_set l default hx]
    congr 3
    refine set_atL (by rw [fill_len l default (by omega)]; exact hi) fun j' k' => ?_
    by_cases e : j' = i
    · subst e
      rcases k' with _ | _ | _ | _ | _ | k' <;> simp [setF_d, Ws.cs, atL_of hd, eL_T]
    · simp [setF_d, e]
  · rw [round_toWsS_1, fill_all]
    simp only [lt_d, Nat.lt_irrefl, decide_false, cond_false]
theorem s_toWsS : EntOk prog i_toWsS e_toWsS := ent_ok ea_WsS_inj fun l hl =>
  body_sound (φ := (tabS [(i_toWs, e_toWs)])) (tabS_cons s_toWs tabS_nil) mixed (kp := kp_toWsS) (n := l.length + 1) func40 (c := bodyOf F_toWsS) (by kernel_rfl) (body_toWsS l hl) (name_ok (by kernel_rfl))
def i_eqWsS : Nat := 47
noncomputable abbrev F_eqWsS : Func := f47
def kp_eqWsS : List (Nat × List Nat) := [(0, [0, 4]), (1, [0, 4, 40]), (2, [16]), (3, [0, 4, 20]), (4, [0, 4, 20, 56]), (5, [0, 4, 20]), (6, [0, 4, 20, 104]), (7, [16]), (8, [16])]
def ts_eqWsS : List Nat := [0, 0]
def st_eqWsS_1 (l r : List Ws) (x20 : Int) : St := [(0, ⟨z0, [(false, [.tr false (eL 5 Ws.cs l)])]⟩), (4, ⟨z0, [(false, [.tr false (eL 5 Ws.cs r)])]⟩), (20, ⟨z0, [(false, [.tr true (T.int IntKind.i64 x20)])]⟩)]
def ex_eqWsS_1_1 (l r : List Ws) (x20 : Int) : St := [(16, ⟨z0, [(false, [.tr true (T.bool false)])]⟩)]
def ex_eqWsS_1_2 (l r : List Ws) (x20 : Int) : St := [(0, ⟨z0, [(false, [.tr false (eL 5 Ws.cs l)])]⟩), (4, ⟨z0, [(false, [.tr false (eL 5 Ws.cs r)])]⟩), (20, ⟨z0, [(false, [.tr true (T.int IntKind.i64 x20)])]⟩), (56, ⟨z0, []⟩)]
theorem round_eqWsS_1 (l r : List Ws) (x20 : Int) (n : Nat) (K : Ex → St → Res) : roundAt prog (tabS [(i_eqWs, e_eqWs)]) kp_eqWsS F_eqWsS [1, 1, 0, 1, 0] n (st_eqWsS_1 l r x20) K = (
 bif decide (x20 < (↑l.length : Int)) then
  gd (decide (0 ≤ x20) && (x20.toNat.blt l.length && true)) <|
  gd (T.isI IntKind.i64 (atL Ws.cs l x20.toNat 0) && T.isI IntKind.i64 (atL Ws.cs l x20.toNat 1) &&
      ((atL Ws.cs l x20.toNat 2).isArr && (atL Ws.cs l x20.toNat 2).wd.beq 1) &&
    ((atL Ws.cs l x20.toNat 3).isArr && (atL Ws.cs l x20.toNat 3).wd.beq 1) &&
  T.isI IntKind.i64 (atL Ws.cs l x20.toNat 4)) <|
  gd (decide (0 ≤ x20) && (x20.toNat.blt r.length && true)) <|
  gd (T.isI IntKind.i64 (atL Ws.cs r x20.toNat 0) && T.isI IntKind.i64 (atL Ws.cs r x20.toNat 1) &&
      ((atL Ws.cs r x20.toNat 2).isArr && (atL Ws.cs r x20.toNat 2).wd.beq 1) &&
    ((atL Ws.cs r x20.toNat 3).isArr && (atL Ws.cs r x20.toNat 3).wd.beq 1) &&
  T.isI IntKind.i64 (atL Ws.cs r x20.toNat 4)) <|
  bif (atL Ws.cs l x20.toNat 0).toI != (atL Ws.cs r x20.toNat 0).toI then
   K .ret (ex_eqWsS_1_1 l r x20)
  else
  bif (atL Ws.cs l x20.toNat 1).toI != (atL Ws.cs r x20.toNat 1).toI then
   K .ret (ex_eqWsS_1_1 l r x20)
  else
  gd (dom ok2_LI ea2_LI
  [(0, false, [C.tr false (T.arr 1 (atL Ws.cs l x20.toNat 2).ln (atL Ws.cs l x20.toNat 2).fn)]),
    (0, false, [C.tr false (T.arr 1 (atL Ws.cs r x20.toNat 2).ln (atL Ws.cs r x20.toNat 2).fn)])]) <|
  bif !f_eqLI
    (inv ok2_LI ea2_LI
      [(0, false, [C.tr false (T.arr 1 (atL Ws.cs l x20.toNat 2).ln (atL Ws.cs l x20.toNat 2).fn)]),
        (0, false, [C.tr false (T.arr 1 (atL Ws.cs r x20.toNat 2).ln (atL Ws.cs r x20.toNat 2).fn)])]) then
   K .ret (ex_eqWsS_1_1 l r x20)
  else
  gd (dom ok2_LI ea2_LI
  [(0, false, [C.tr false (T.arr 1 (atL Ws.cs l x20.toNat 3).ln (atL Ws.cs l x20.toNat 3).fn)]),
    (0, false, [C.tr false (T.arr 1 (atL Ws.cs r x20.toNat 3).ln (atL Ws.cs r x20.toNat 3).fn)])]) <|
  bif !f_eqLI
    (inv ok2_LI ea2_LI
      [(0, false, [C.tr false (T.arr 1 (atL Ws.cs l x20.toNat 3).ln (atL Ws.cs l x20.toNat 3).fn)]),
        (0, false, [C.tr false (T.arr 1 (atL Ws.cs r x20.toNat 3).ln (atL Ws.cs r x20.toNat 3).fn)])]) then
   K .ret (ex_eqWsS_1_1 l r x20)
  else
  bif (atL Ws.cs l x20.toNat 4).toI != (atL Ws.cs r x20.toNat 4).toI then
   K .ret (ex_eqWsS_1_1 l r x20)
  else
  K .normal (st_eqWsS_1 l r (IntKind.i64.wrap (x20 + 1)))
 else
 K (.exit 0) (ex_eqWsS_1_2 l r x20)) := by kernel_rfl
theorem post_eqWsS_1_1 (l r : List Ws) (x20 : Int) (n : Nat) : contAt prog (tabS [(i_eqWs, e_eqWs)]) kp_eqWsS F_eqWsS ts_eqWsS [1, 1, 0, 1, 0] [] n .ret (ex_eqWsS_1_1 l r x20) = (
 some ([(false, [.tr true (T.bool false)])], [(false, []), (false, [])])) := by kernel_rfl
theorem post_eqWsS_1_2 (l r : List Ws) (x20 : Int) (n : Nat) : contAt prog (tabS [(i_eqWs, e_eqWs)]) kp_eqWsS F_eqWsS ts_eqWsS [1, 1, 0, 1, 0] [] n (.exit 0) (ex_eqWsS_1_2 l r x20) = (
 some ([(false, [.tr true (T.bool true)])], [(false, []), (false, [])])) := by kernel_rfl
theorem pre_eqWsS (l r : List Ws) (n : Nat) : body prog (tabS [(i_eqWs, e_eqWs)]) kp_eqWsS n F_eqWsS [aT (eL 5 Ws.cs l), aT (eL 5 Ws.cs r)] = (
 bif (↑l.length : Int) != (↑r.length : Int) then
  some ([(false, [.tr true (T.bool false)])], [(false, []), (false, [])])
 else
 loopAt prog (tabS [(i_eqWs, e_eqWs)]) kp_eqWsS F_eqWsS [1, 1, 0, 1, 0] n n (st_eqWsS_1 l r (0)) (contAt prog (tabS [(i_eqWs, e_eqWs)]) kp_eqWsS F_eqWsS ts_eqWsS [1, 1, 0, 1, 0] [] n)) := by kernel_rfl
theorem body_eqWsS (l r : List Ws) (hl : okq_WsS l) : body prog (tabS [(i_eqWs, e_eqWs)]) kp_eqWsS (l.length + 1) F_eqWsS (ea2_WsS (l, r)) = some (erB 2 (f_eqWsS (l, r))) := by
  have hbm := bm
  have hl' : l.length ≤ BM := hl.1
  unfold ea2_WsS f_eqWsS
  dsimp only
  rw [pre_eqWsS, int_ne]
  by_cases h : l.length = r.length
  · rw [decide_eq_true (by omega)]
    simp only [Bool.not_true, cond_false]
    have hst : st_eqWsS_1 l r 0 = (fun i : Nat => st_eqWsS_1 l r (i : Nat)) 0 := rfl
    rw [hst, eqS l r h (fun i : Nat => st_eqWsS_1 l r (i : Nat)) (fun i : Nat => ex_eqWsS_1_1 l r (i : Nat)) (ex_eqWsS_1_2 l r l.length) (fun i x y K hx hy => ?_) (fun K => ?_) (fun i => post_eqWsS_1_1 l r _ _) (post_eqWsS_1_2 l r _ _) _ (Nat.le_refl _)]
    · by_cases e : l = r
      · rw [if_pos e, decide_eq_true e]; rfl
      · rw [if_neg e, decide_eq_false e]; rfl
    · have hi := (List.getElem?_eq_some_iff.1 hx).1
      have hi' := (List.getElem?_eq_some_iff.1 hy).1
      have hxm : x ∈ l := List.mem_of_getElem? hx
      have h0 := (hl.2 _ hxm).1
      have h1 := (hl.2 _ hxm).2
      rw [round_eqWsS_1]
      simp only [lt_d, ge0_d, Int.toNat_natCast, blt_d, ble_self, beq_self, decide_true, cond_true, Bool.and_self, Bool.and_true, Bool.true_and, gd_true, Nat.zero_add, List.getD_cons_zero, List.getD_cons_succ, isI_int, toI_int, isB_bool, toB_bool, eL_T, arr_ln, arr_fn, arr_wd, arr_is, arr_get, hi, hi', atL_of hx, atL_of hy, Ws.cs, int_ne, bool_ne, bool_eq, dm_eqLI h0, iv_eqLI h0, d_eqLI, dm_eqLI h1, iv_eqLI h1, d_eqLI, chain]
      rw [wrapS (by omega)]
      have hxy : (x.slot = y.slot ∧ x.first = y.first ∧ x.tags = y.tags ∧ x.chunks = y.chunks ∧ x.done = y.done) ↔ x = y := by
        rcases x with ⟨x0, x1, x2, x3, x4⟩
        rcases y with ⟨y0, y1, y2, y3, y4⟩
        simp [and_assoc]
      simp only [hxy]
    · rw [round_eqWsS_1]
      simp only [lt_d, Nat.lt_irrefl, decide_false, cond_false]
  · rw [decide_eq_false (by omega)]
    have : ¬ l = r := fun e => h (by rw [e])
    rw [decide_eq_false this]
    rfl
theorem s_eqWsS : EntOk prog i_eqWsS e_eqWsS := ent_ok ea2_WsS_inj fun x hx =>
  body_sound (φ := (tabS [(i_eqWs, e_eqWs)])) (tabS_cons s_eqWs tabS_nil) mixed (kp := kp_eqWsS) (n := x.1.length + 1) func47 (c := bodyOf F_eqWsS) (by kernel_rfl) (body_eqWsS x.1 x.2 hx) (name_ok (by kernel_rfl))
theorem dm_toWsS {l : List Ws} (h : ok_WsS l) : dom ok_WsS ea_WsS [(0, false, [C.tr false (T.arr 5 l.length (atL Ws.cs l))])] = true := dom_ea (ea := ea_WsS) (x := l) h
theorem iv_toWsS {l : List Ws} (h : ok_WsS l) : inv ok_WsS ea_WsS [(0, false, [C.tr false (T.arr 5 l.length (atL Ws.cs l))])] = l := inv_ea ea_WsS_inj (x := l) h
theorem dm_eqWsS {l r : List Ws} (h : okq_WsS l) : dom ok2_WsS ea2_WsS [(0, false, [C.tr false (T.arr 5 l.length (atL Ws.cs l))]), (0, false, [C.tr false (T.arr 5 r.length (atL Ws.cs r))])] = true := dom_ea (ea := ea2_WsS) (x := (l, r)) h
theorem iv_eqWsS {l r : List Ws} (h : okq_WsS l) : inv ok2_WsS ea2_WsS [(0, false, [C.tr false (T.arr 5 l.length (atL Ws.cs l))]), (0, false, [C.tr false (T.arr 5 r.length (atL Ws.cs r))])] = (l, r) := inv_ea ea2_WsS_inj (x := (l, r)) h
theorem d_eqWsS (l r : List Ws) : f_eqWsS (l, r) = decide (l = r) := rfl
def n1_WsS (x : Ws) : Nat := n_LI x.tags + n_LI x.chunks
def n_WsS (l : List Ws) : Nat := l.length + cntL n1_WsS l
def okz_WsS (l : List Ws) : Prop := l.length ≤ ZM ∧ ∀ x ∈ l, okz_LI x.tags ∧ okz_LI x.chunks
def okzz_WsS (x : List Ws × Int) : Prop := okz_WsS x.1 ∧ 0 ≤ x.2 ∧ x.2 ≤ LM
def eaz_WsS (x : List Ws × Int) : List Arg := [aT (eL 5 Ws.cs x.1), aI x.2]
def f_szWsS (x : List Ws × Int) : Int := if (n_WsS x.1 : Int) ≤ x.2 then x.2 - n_WsS x.1 else -1
noncomputable def e_szWsS : Ent := ent [] okzz_WsS eaz_WsS (erI 2) f_szWsS
theorem eaz_WsS_inj (x y : List Ws × Int) (h : eaz_WsS x = eaz_WsS y) : x = y := by
  simp only [eaz_WsS, aI, aT, List.cons.injEq, Prod.mk.injEq, true_and, and_true, C.tr.injEq, T.int.injEq] at h
  exact Prod.ext (eL_inj Ws.cs_inj h.1) h.2
theorem dm_szWsS {l : List Ws} {k : Int} (h : okzz_WsS (l, k)) : dom okzz_WsS eaz_WsS [(0, false, [C.tr false (T.arr 5 l.length (atL Ws.cs l))]), (0, false, [C.tr false (T.int IntKind.i64 k)])] = true := dom_ea (ea := eaz_WsS) (x := (l, k)) h
theorem iv_szWsS {l : List Ws} {k : Int} (h : okzz_WsS (l, k)) : inv okzz_WsS eaz_WsS [(0, false, [C.tr false (T.arr 5 l.length (atL Ws.cs l))]), (0, false, [C.tr false (T.int IntKind.i64 k)])] = (l, k) := inv_ea eaz_WsS_inj (x := (l, k)) h
theorem y_szWsS {l : List Ws} {k : Int} (h : (n_WsS l : Int) ≤ k) : f_szWsS (l, k) = k - n_WsS l := if_pos h
theorem n_szWsS {l : List Ws} {k : Int} (h : ¬ (n_WsS l : Int) ≤ k) : f_szWsS (l, k) = -1 := if_neg h
def i_szWsS : Nat := 33
noncomputable abbrev F_szWsS : Func := f33
def kp_szWsS : List (Nat × List Nat) := [(0, [0, 4]), (1, [0, 4]), (2, [0, 4, 44]), (3, [16]), (4, [0, 4, 20]), (5, [0, 4, 20, 60]), (6, [0, 4, 20]), (7, [0, 4, 20]), (8, [0, 4, 20, 100]), (9, [16]), (10, [16])]
def ts_szWsS : List Nat := [0, 0]
def st_szWsS_1 (l : List Ws) (k : Int) (x4 : Int) (x20 : Int) : St := [(0, ⟨z0, [(false, [.tr false (eL 5 Ws.cs l)])]⟩), (4, ⟨z0, [(false, [.tr true (T.int IntKind.i64 x4)])]⟩), (20, ⟨z0, [(false, [.tr true (T.int IntKind.i64 x20)])]⟩)]
def ex_szWsS_1_1 (l : List Ws) (k : Int) (x4 : Int) (x20 : Int) : St := [(16, ⟨z0, [(false, [.tr true (T.int IntKind.i64 (-1))])]⟩)]
def ex_szWsS_1_2 (l : List Ws) (k : Int) (x4 : Int) (x20 : Int) : St := [(0, ⟨z0, [(false, [.tr false (eL 5 Ws.cs l)])]⟩), (4, ⟨z0, [(false, [.tr true (T.int IntKind.i64 x4)])]⟩), (20, ⟨z0, [(false, [.tr true (T.int IntKind.i64 x20)])]⟩), (60, ⟨z0, []⟩)]
theorem round_szWsS_1 (l : List Ws) (k : Int) (x4 : Int) (x20 : Int) (n : Nat) (K : Ex → St → Res) : roundAt prog (tabS [(i_szWs, e_szWs)]) kp_szWsS F_szWsS [1, 1, 1, 0, 1, 0] n (st_szWsS_1 l k x4 x20) K = (
 bif decide (x20 < (↑l.length : Int)) then
  gd (decide (0 ≤ x20) && (x20.toNat.blt l.length && true)) <|
  gd (T.isI IntKind.i64 (atL Ws.cs l x20.toNat 0) && T.isI IntKind.i64 (atL Ws.cs l x20.toNat 1) &&
      ((atL Ws.cs l x20.toNat 2).isArr && (atL Ws.cs l x20.toNat 2).wd.beq 1) &&
    ((atL Ws.cs l x20.toNat 3).isArr && (atL Ws.cs l x20.toNat 3).wd.beq 1) &&
  T.isI IntKind.i64 (atL Ws.cs l x20.toNat 4)) <|
  bif decide (IntKind.i64.wrap (x4 - (↑(atL Ws.cs l x20.toNat 2).ln : Int)) < 0) then
   K .ret (ex_szWsS_1_1 l k x4 x20)
  else
  bif decide (IntKind.i64.wrap (x4 - (↑(atL Ws.cs l x20.toNat 2).ln : Int)) < 0) then
   K .ret (ex_szWsS_1_1 l k x4 x20)
  else
  bif decide
  (IntKind.i64.wrap
      (IntKind.i64.wrap (x4 - (↑(atL Ws.cs l x20.toNat 2).ln : Int)) - (↑(atL Ws.cs l x20.toNat 3).ln : Int)) <
    0) then
   K .ret (ex_szWsS_1_1 l k x4 x20)
  else
  bif decide
  (IntKind.i64.wrap
      (IntKind.i64.wrap (x4 - (↑(atL Ws.cs l x20.toNat 2).ln : Int)) - (↑(atL Ws.cs l x20.toNat 3).ln : Int)) <
    0) then
   K .ret (ex_szWsS_1_1 l k x4 x20)
  else
  bif decide
  (IntKind.i64.wrap
      (IntKind.i64.wrap (x4 - (↑(atL Ws.cs l x20.toNat 2).ln : Int)) - (↑(atL Ws.cs l x20.toNat 3).ln : Int)) <
    0) then
   K .ret (ex_szWsS_1_1 l k x4 x20)
  else
  K .normal (st_szWsS_1 l k (IntKind.i64.wrap
  (IntKind.i64.wrap (x4 - (↑(atL Ws.cs l x20.toNat 2).ln : Int)) - (↑(atL Ws.cs l x20.toNat 3).ln : Int))) (IntKind.i64.wrap (x20 + 1)))
 else
 K (.exit 0) (ex_szWsS_1_2 l k x4 x20)) := by kernel_rfl
theorem post_szWsS_1_1 (l : List Ws) (k : Int) (x4 : Int) (x20 : Int) (n : Nat) : contAt prog (tabS [(i_szWs, e_szWs)]) kp_szWsS F_szWsS ts_szWsS [1, 1, 1, 0, 1, 0] [] n .ret (ex_szWsS_1_1 l k x4 x20) = (
 some ([(false, [.tr true (T.int IntKind.i64 (-1))])], [(false, []), (false, [])])) := by kernel_rfl
theorem post_szWsS_1_2 (l : List Ws) (k : Int) (x4 : Int) (x20 : Int) (n : Nat) : contAt prog (tabS [(i_szWs, e_szWs)]) kp_szWsS F_szWsS ts_szWsS [1, 1, 1, 0, 1, 0] [] n (.exit 0) (ex_szWsS_1_2 l k x4 x20) = (
 some ([(false, [.tr true (T.int IntKind.i64 x4)])], [(false, []), (false, [])])) := by kernel_rfl
theorem pre_szWsS (l : List Ws) (k : Int) (n : Nat) : body prog (tabS [(i_szWs, e_szWs)]) kp_szWsS n F_szWsS [aT (eL 5 Ws.cs l), aI k] = (
 bif decide (IntKind.i64.wrap (k - (↑l.length : Int)) < 0) then
  some ([(false, [.tr true (T.int IntKind.i64 (-1))])], [(false, []), (false, [])])
 else
 loopAt prog (tabS [(i_szWs, e_szWs)]) kp_szWsS F_szWsS [1, 1, 1, 0, 1, 0] n n (st_szWsS_1 l k (IntKind.i64.wrap (k - (↑l.length : Int))) (0)) (contAt prog (tabS [(i_szWs, e_szWs)]) kp_szWsS F_szWsS ts_szWsS [1, 1, 1, 0, 1, 0] [] n)) := by kernel_rfl
theorem round1_szWsS (l : List Ws) (k : Int) (hl : okz_WsS l) {n : Nat} (i : Nat) (x : Ws) (K : Ex → St → Res) (hx : l[i]? = some x) (hr : (cntL n1_WsS (l.take i) : Int) ≤ k - (l.length : Int)) (hk1 : k ≤ LM) : roundAt prog (tabS [(i_szWs, e_szWs)]) kp_szWsS F_szWsS [1, 1, 1, 0, 1, 0] n (st_szWsS_1 l k (k - (l.length : Int) - cntL n1_WsS (l.take i)) (i : Nat)) K = bif decide (k - (l.length : Int) - cntL n1_WsS (l.take i) < n1_WsS x) then K .ret (ex_szWsS_1_1 l k (k - (l.length : Int) - cntL n1_WsS (l.take i)) (i : Nat)) else K .normal (st_szWsS_1 l k (k - (l.length : Int) - cntL n1_WsS (l.take (i + 1))) ((i + 1 : Nat) : Int)) := by
    have hzm := zm
    have hlm := lm
    have hl' : l.length ≤ ZM := hl.1
    have hi := (List.getElem?_eq_some_iff.1 hx).1
    have hxm : x ∈ l := List.mem_of_getElem? hx
    have hc := cntL_take n1_WsS l hx
    have hcx : n1_WsS x = x.tags.length + x.chunks.length := rfl
    rw [hc, round_szWsS_1]
    obtain ⟨k0, hk⟩ : ∃ k0, k0 = k - (l.length : Int) - (cntL n1_WsS (l.take i) : Int) := ⟨_, rfl⟩
    have hk2 : k - (l.length : Int) - ((cntL n1_WsS (l.take i) + n1_WsS x : Nat) : Int) = k0 - (x.tags.length : Int) - (x.chunks.length : Int) := by omega
    rw [hk2, ← hk]
    have hk3 : 0 ≤ k0 := by omega
    have hk4 : k0 ≤ LM := by omega
    simp (disch := omega) only [lt_d, ge0_d, Int.toNat_natCast, blt_d, ble_self, beq_self, decide_true, cond_true, Bool.and_self, Bool.and_true, Bool.true_and, gd_true, Nat.zero_add, List.getD_cons_zero, List.getD_cons_succ, isI_int, toI_int, isB_bool, toB_bool, eL_T, arr_ln, arr_fn, arr_wd, arr_is, arr_get, hi, atL_of hx, Ws.cs, wrapS]
    have h0 : x.tags.length ≤ ZM := (hl.2 _ hxm).1
    have h1 : x.chunks.length ≤ ZM := (hl.2 _ hxm).2
    try simp (disch := omega) only [wrapI]
    by_cases e0 : k0 - (x.tags.length : Int) < 0
    case pos =>
      rw [decide_eq_true e0, decide_eq_true (show k0 < (n1_WsS x : Int) by omega)]
      rfl
    simp (disch := omega) only [decide_eq_false e0, cond_false, wrapI]
    try simp (disch := omega) only [wrapI]
    by_cases e1 : k0 - (x.tags.length : Int) - (x.chunks.length : Int) < 0
    case pos =>
      rw [decide_eq_true e1, decide_eq_true (show k0 < (n1_WsS x : Int) by omega)]
      rfl
    simp (disch := omega) only [decide_eq_false e1, cond_false, wrapI]
    rw [decide_eq_false (show ¬ k0 < (n1_WsS x : Int) by omega)]
    simp only [cond_false]
    try congr 2
    try omega
theorem body_szWsS (l : List Ws) (k : Int) (h : okzz_WsS (l, k)) : body prog (tabS [(i_szWs, e_szWs)]) kp_szWsS (l.length + 1) F_szWsS (eaz_WsS (l, k)) = some (erI 2 (f_szWsS (l, k))) := by
  obtain ⟨hl, hk0, hk1⟩ := h
  have hzm := zm
  have hlm := lm
  dsimp only at hl hk0 hk1
  have hl' : l.length ≤ ZM := hl.1
  have hn : n_WsS l = l.length + cntL n1_WsS l := rfl
  unfold eaz_WsS f_szWsS
  dsimp only
  rw [pre_szWsS]
  simp (disch := omega) only [wrapI]
  by_cases hs : k - (l.length : Int) < 0
  · rw [decide_eq_true hs, if_neg (by omega)]
    rfl
  · rw [decide_eq_false hs]
    simp only [cond_false]
    have hst : st_szWsS_1 l k (k - (l.length : Int)) 0 = (fun i : Nat => st_szWsS_1 l k (k - (l.length : Int) - cntL n1_WsS (l.take i)) (i : Nat)) 0 := by simp [cntL]
    rw [hst, szS n1_WsS l (k - (l.length : Int)) (by omega) (fun i : Nat => st_szWsS_1 l k (k - (l.length : Int) - cntL n1_WsS (l.take i)) (i : Nat)) (fun i : Nat => ex_szWsS_1_1 l k (k - (l.length : Int) - cntL n1_WsS (l.take i)) (i : Nat)) (ex_szWsS_1_2 l k (k - (l.length : Int) - cntL n1_WsS l) l.length) (fun i x K hx hr => ?_) (fun K hr => ?_) (fun i => post_szWsS_1_1 l k _ _ _) (post_szWsS_1_2 l k _ _ _) _ (Nat.le_refl _)]
    · by_cases hq : (cntL n1_WsS l : Int) ≤ k - (l.length : Int)
      · rw [if_pos hq, if_pos (by omega), show k - (l.length : Int) - (cntL n1_WsS l : Int) = k - (n_WsS l : Int) by omega]
        rfl
      · rw [if_neg hq, if_neg (by omega)]
        rfl
    · exact round1_szWsS l k hl i x K hx hr hk1
    · rw [round_szWsS_1]
      simp only [lt_d, Nat.lt_irrefl, decide_false, cond_false, List.take_length]
theorem s_szWsS : EntOk prog i_szWsS e_szWsS := ent_ok eaz_WsS_inj fun x hx =>
  body_sound (φ := (tabS [(i_szWs, e_szWs)])) (tabS_cons s_szWs tabS_nil) mixed (kp := kp_szWsS) (n := x.1.length + 1) func33 (c := bodyOf F_szWsS) (by kernel_rfl) (body_szWsS x.1 x.2 hx) (name_ok (by kernel_rfl))
end Go.Mach.F
namespace Go.Mach.F
open Go Go.Mach Go.Proofs.Try
--=set_option maxRecDepth 100000
theorem Pl.cs_inj (x y : Pl) (h : ∀ k, x.cs.getD k .hole = y.cs.getD k .hole) : x = y := by
  have h0 := h 0; have h1 := h 1; have h2 := h 2
  rcases x with ⟨x0, x1, x2⟩
  rcases y with ⟨y0, y1, y2⟩
  simp only [Pl.cs, List.getD_cons_zero, List.getD_cons_succ, T.int.injEq, T.bool.injEq, true_and] at h0 h1 h2
  replace h0 := eB_inj h0
  replace h1 := eI_inj h1
  replace h2 := eI_inj h2
  subst h0; subst h1; subst h2
  rfl
theorem Pl.cs_ext {x y : Pl} (h : x.cs = y.cs) : x = y := Pl.cs_inj x y fun k => by rw [h]
theorem Wd.cs_inj (x y : Wd) (h : ∀ k, x.cs.getD k .hole = y.cs.getD k .hole) : x = y := by
  have h0 := h 0; have h1 := h 1; have h2 := h 2; have h3 := h 3; have h4 := h 4; have h5 := h 5; have h6 := h 6; have h7 := h 7; have h8 := h 8; have h9 := h 9; have h10 := h 10; have h11 := h 11
  rcases x with ⟨⟨x0, x1, x2, x3, x4, x5⟩, ⟨x6, x7, x8⟩, x9, x10, x11⟩
  rcases y with ⟨⟨y0, y1, y2, y3, y4, y5⟩, ⟨y6, y7, y8⟩, y9, y10, y11⟩
  simp only [Wd.cs, List.getD_cons_zero, List.getD_cons_succ, T.int.injEq, T.bool.injEq, true_and] at h0 h1 h2 h3 h4 h5 h6 h7 h8 h9 h10 h11
  replace h6 := eB_inj h6
  replace h7 := eI_inj h7
  replace h8 := eI_inj h8
  replace h9 := eL_inj Nd.cs_inj h9
  replace h10 := eL_inj Ws.cs_inj h10
  replace h11 := eI_inj h11
  subst h0; subst h1; subst h2; subst h3; subst h4; subst h5; subst h6; subst h7; subst h8; subst h9; subst h10; subst h11
  rfl
theorem Wd.cs_ext {x y : Wd} (h : x.cs = y.cs) : x = y := Wd.cs_inj x y fun k => by rw [h]
def i_toPl : Nat := 38
noncomputable abbrev F_toPl : Func := f38
def kp_toPl : List (Nat × List Nat) := [(0, [4, 5, 8, 9, 12, 13, 64]), (1, [4, 5, 8, 9, 12, 13, 64]), (2, [4, 5, 8, 9, 12, 13, 64]), (3, [4, 5, 8, 9, 12, 13, 64]), (4, [8, 9, 12, 13, 64]), (5, [8, 9, 12, 13, 64])]
noncomputable def e_toPl : Ent := inl [] prog (tabS [(i_toLB, e_toLB), (i_toLI, e_toLI)]) kp_toPl 0 F_toPl
theorem s_toPl : EntOk prog i_toPl e_toPl := inl_ok (tabS_cons s_toLB (tabS_cons s_toLI tabS_nil)) mixed (c := bodyOf F_toPl) func38 (by kernel_rfl) (name_ok (by kernel_rfl))
def i_eqPl : Nat := 45
noncomputable abbrev F_eqPl : Func := f45
def kp_eqPl : List (Nat × List Nat) := [(0, [8, 9, 12, 13]), (1, [8, 9, 12, 13, 40]), (2, [16]), (3, [8, 9, 12, 13, 64]), (4, [16]), (5, [88]), (6, [16]), (7, [16])]
noncomputable def e_eqPl : Ent := inl [] prog (tabS [(i_eqLB, e_eqLB), (i_eqLI, e_eqLI)]) kp_eqPl 0 F_eqPl
theorem s_eqPl : EntOk prog i_eqPl e_eqPl := inl_ok (tabS_cons s_eqLB (tabS_cons s_eqLI tabS_nil)) mixed (c := bodyOf F_eqPl) func45 (by kernel_rfl) (name_ok (by kernel_rfl))
def i_szPl : Nat := 31
noncomputable abbrev F_szPl : Func := f31
def kp_szPl : List (Nat × List Nat) := [(0, [4, 8, 9]), (1, [4, 8, 9]), (2, [4, 8, 9, 40]), (3, [16]), (4, [4, 8, 9]), (5, [4, 8, 9, 64]), (6, [16]), (7, [4]), (8, [4, 88]), (9, [16]), (10, [16])]
noncomputable def e_szPl : Ent := inl [] prog (tabS [(i_szLB, e_szLB), (i_szLI, e_szLI)]) kp_szPl 0 F_szPl
theorem s_szPl : EntOk prog i_szPl e_szPl := inl_ok (tabS_cons s_szLB (tabS_cons s_szLI tabS_nil)) mixed (c := bodyOf F_szPl) func31 (by kernel_rfl) (name_ok (by kernel_rfl))
abbrev shTh : List Sh := [.int .i64, .int .i64, .int .i64]
def z_Th (x : Th) : Prop := True
theorem sh_Th {ts : List T} (hh : ShTs ts shTh) : ∃ x : Th, ts = x.cs ∧ z_Th x := by
  obtain ⟨t0, ts, rfl, h0, hh⟩ := shs_cons hh
  obtain ⟨t1, ts, rfl, h1, hh⟩ := shs_cons hh
  obtain ⟨t2, ts, rfl, h2, hh⟩ := shs_cons hh
  obtain rfl := shs_nil hh
  obtain ⟨x0, rfl, _⟩ := sh_int h0
  obtain ⟨x1, rfl, _⟩ := sh_int h1
  obtain ⟨x2, rfl, _⟩ := sh_int h2
  exact ⟨⟨x0, x1, x2⟩, rfl, trivial⟩
theorem sh_ThS {t : T} (h : ShT t (.arr shTh)) : ∃ l : List Th, t = eL 3 Th.cs l ∧ l.length ≤ ZM ∧ ∀ x ∈ l, z_Th x := sh_list z_Th (fun _ => rfl) (fun _ hts => sh_Th hts) h
abbrev shNd : List Sh := [.int .i64, .int .i64, .int .i64, .int .i64, .int .i64, .int .i64, .int .i64, .int .i64, .arr [.int .i64], .int .i64, .int .i64, .arr shTh, .arr [.int .i64]]
def z_Nd (x : Nd) : Prop := okz_LI x.chunks ∧ okz_ThS x.things ∧ okz_LI x.tags
theorem sh_Nd {ts : List T} (hh : ShTs ts shNd) : ∃ x : Nd, ts = x.cs ∧ z_Nd x := by
  obtain ⟨t0, ts, rfl, h0, hh⟩ := shs_cons hh
  obtain ⟨t1, ts, rfl, h1, hh⟩ := shs_cons hh
  obtain ⟨t2, ts, rfl, h2, hh⟩ := shs_cons hh
  obtain ⟨t3, ts, rfl, h3, hh⟩ := shs_cons hh
  obtain ⟨t4, ts, rfl, h4, hh⟩ := shs_cons hh
  obtain ⟨t5, ts, rfl, h5, hh⟩ := shs_cons hh
  obtain ⟨t6, ts, rfl, h6, hh⟩ := shs_cons hh
  obtain ⟨t7, ts, rfl, h7, hh⟩ := shs_cons hh
  obtain ⟨t8, ts, rfl, h8, hh⟩ := shs_cons hh
  obtain ⟨t9, ts, rfl, h9, hh⟩ := shs_cons hh
  obtain ⟨t10, ts, rfl, h10, hh⟩ := shs_cons hh
  obtain ⟨t11, ts, rfl, h11, hh⟩ := shs_cons hh
  obtain ⟨t12, ts, rfl, h12, hh⟩ := shs_cons hh
  obtain rfl := shs_nil hh
  obtain ⟨x0, rfl, _⟩ := sh_int h0
  obtain ⟨x1, rfl, _⟩ := sh_int h1
  obtain ⟨x2, rfl, _⟩ := sh_int h2
  obtain ⟨x3, rfl, _⟩ := sh_int h3
  obtain ⟨x4, rfl, _⟩ := sh_int h4
  obtain ⟨x5, rfl, _⟩ := sh_int h5
  obtain ⟨x6, rfl, _⟩ := sh_int h6
  obtain ⟨x7, rfl, _⟩ := sh_int h7
  obtain ⟨x8, rfl, z8⟩ := sh_LI h8
  obtain ⟨x9, rfl, _⟩ := sh_int h9
  obtain ⟨x10, rfl, _⟩ := sh_int h10
  obtain ⟨x11, rfl, z11, _⟩ := sh_ThS h11
  obtain ⟨x12, rfl, z12⟩ := sh_LI h12
  exact ⟨⟨x0, x1, x2, x3, x4, x5, x6, x7, x8, x9, x10, x11, x12⟩, rfl, ⟨z8, z11, z12⟩⟩
theorem sh_NdS {t : T} (h : ShT t (.arr shNd)) : ∃ l : List Nd, t = eL 13 Nd.cs l ∧ l.length ≤ ZM ∧ ∀ x ∈ l, z_Nd x := sh_list z_Nd (fun _ => rfl) (fun _ hts => sh_Nd hts) h
abbrev shWs : List Sh := [.int .i64, .int .i64, .arr [.int .i64], .arr [.int .i64], .int .i64]
def z_Ws (x : Ws) : Prop := okz_LI x.tags ∧ okz_LI x.chunks
theorem sh_Ws {ts : List T} (hh : ShTs ts shWs) : ∃ x : Ws, ts = x.cs ∧ z_Ws x := by
  obtain ⟨t0, ts, rfl, h0, hh⟩ := shs_cons hh
  obtain ⟨t1, ts, rfl, h1, hh⟩ := shs_cons hh
  obtain ⟨t2, ts, rfl, h2, hh⟩ := shs_cons hh
  obtain ⟨t3, ts, rfl, h3, hh⟩ := shs_cons hh
  obtain ⟨t4, ts, rfl, h4, hh⟩ := shs_cons hh
  obtain rfl := shs_nil hh
  obtain ⟨x0, rfl, _⟩ := sh_int h0
  obtain ⟨x1, rfl, _⟩ := sh_int h1
  obtain ⟨x2, rfl, z2⟩ := sh_LI h2
  obtain ⟨x3, rfl, z3⟩ := sh_LI h3
  obtain ⟨x4, rfl, _⟩ := sh_int h4
  exact ⟨⟨x0, x1, x2, x3, x4⟩, rfl, ⟨z2, z3⟩⟩
theorem sh_WsS {t : T} (h : ShT t (.arr shWs)) : ∃ l : List Ws, t = eL 5 Ws.cs l ∧ l.length ≤ ZM ∧ ∀ x ∈ l, z_Ws x := sh_list z_Ws (fun _ => rfl) (fun _ hts => sh_Ws hts) h
abbrev shWd : List Sh := [.int .i64, .int .i64, .int .i64, .int .i64, .int .i64, .int .i64, .arr [.int .u8], .arr [.int .i64], .arr [.int .i64], .arr shNd, .arr shWs, .arr [.int .i64]]
def z_Wd (x : Wd) : Prop := okz_LB x.p.mem ∧ okz_LI x.p.st ∧ okz_LI x.p.own ∧ okz_NdS x.l ∧ okz_WsS x.q ∧ okz_LI x.log
theorem sh_Wd {ts : List T} (hh : ShTs ts shWd) : ∃ x : Wd, ts = x.cs ∧ z_Wd x := by
  obtain ⟨t0, ts, rfl, h0, hh⟩ := shs_cons hh
  obtain ⟨t1, ts, rfl, h1, hh⟩ := shs_cons hh
  obtain ⟨t2, ts, rfl, h2, hh⟩ := shs_cons hh
  obtain ⟨t3, ts, rfl, h3, hh⟩ := shs_cons hh
  obtain ⟨t4, ts, rfl, h4, hh⟩ := shs_cons hh
  obtain ⟨t5, ts, rfl, h5, hh⟩ := shs_cons hh
  obtain ⟨t6, ts, rfl, h6, hh⟩ := shs_cons hh
  obtain ⟨t7, ts, rfl, h7, hh⟩ := shs_cons hh
  obtain ⟨t8, ts, rfl, h8, hh⟩ := shs_cons hh
  obtain ⟨t9, ts, rfl, h9, hh⟩ := shs_cons hh
  obtain ⟨t10, ts, rfl, h10, hh⟩ := shs_cons hh
  obtain ⟨t11, ts, rfl, h11, hh⟩ := shs_cons hh
  obtain rfl := shs_nil hh
  obtain ⟨x0, rfl, _⟩ := sh_int h0
  obtain ⟨x1, rfl, _⟩ := sh_int h1
  obtain ⟨x2, rfl, _⟩ := sh_int h2
  obtain ⟨x3, rfl, _⟩ := sh_int h3
  obtain ⟨x4, rfl, _⟩ := sh_int h4
  obtain ⟨x5, rfl, _⟩ := sh_int h5
  obtain ⟨x6, rfl, z6⟩ := sh_LB h6
  obtain ⟨x7, rfl, z7⟩ := sh_LI h7
  obtain ⟨x8, rfl, z8⟩ := sh_LI h8
  obtain ⟨x9, rfl, z9, y9⟩ := sh_NdS h9
  obtain ⟨x10, rfl, z10, y10⟩ := sh_WsS h10
  obtain ⟨x11, rfl, z11⟩ := sh_LI h11
  exact ⟨⟨⟨x0, x1, x2, x3, x4, x5⟩, ⟨x6, x7, x8⟩, x9, x10, x11⟩, rfl, ⟨z6, z7, z8, ⟨z9, y9⟩, ⟨z10, y10⟩, z11⟩⟩
def ok_EqWd (x : Wd × Wd) : Prop := okq_LB x.1.p.mem ∧ okq_LI x.1.p.st ∧ okq_LI x.1.p.own ∧ okq_NdS x.1.l ∧ okq_WsS x.1.q ∧ okq_LI x.1.log
def ea_EqWd (x : Wd × Wd) : List Arg := [aR x.1.cs, aR x.2.cs]
def f_EqWd (x : Wd × Wd) : Bool := decide (x.1 = x.2)
noncomputable def e_EqWd : Ent := ent [] ok_EqWd ea_EqWd (erB 2) f_EqWd
theorem ea_EqWd_inj (x y : Wd × Wd) (h : ea_EqWd x = ea_EqWd y) : x = y := by
  obtain ⟨l1, r1⟩ := x
  obtain ⟨l2, r2⟩ := y
  simp only [ea_EqWd, List.cons.injEq, and_true, true_and] at h
  obtain ⟨e0, e1⟩ := h
  obtain rfl := Wd.cs_ext (aR_inj e0)
  obtain rfl := Wd.cs_ext (aR_inj e1)
  rfl
theorem dm_EqWd {l : Wd} {r : Wd} (h : ok_EqWd (l, r)) : dom ok_EqWd ea_EqWd [(0, true, [C.tr false (T.int IntKind.i64 l.c.chunks), C.tr false (T.int IntKind.i64 l.c.size), C.tr false (T.int IntKind.i64 l.c.slots), C.tr false (T.int IntKind.i64 l.c.tax), C.tr false (T.int IntKind.i64 l.c.slice), C.tr false (T.int IntKind.i64 l.c.gens), C.tr false (T.arr 1 l.p.mem.length (atL rowB l.p.mem)), C.tr false (T.arr 1 l.p.st.length (atL rowI l.p.st)), C.tr false (T.arr 1 l.p.own.length (atL rowI l.p.own)), C.tr false (T.arr 13 l.l.length (atL Nd.cs l.l)), C.tr false (T.arr 5 l.q.length (atL Ws.cs l.q)), C.tr false (T.arr 1 l.log.length (atL rowI l.log))]), (0, true, [C.tr false (T.int IntKind.i64 r.c.chunks), C.tr false (T.int IntKind.i64 r.c.size), C.tr false (T.int IntKind.i64 r.c.slots), C.tr false (T.int IntKind.i64 r.c.tax), C.tr false (T.int IntKind.i64 r.c.slice), C.tr false (T.int IntKind.i64 r.c.gens), C.tr false (T.arr 1 r.p.mem.length (atL rowB r.p.mem)), C.tr false (T.arr 1 r.p.st.length (atL rowI r.p.st)), C.tr false (T.arr 1 r.p.own.length (atL rowI r.p.own)), C.tr false (T.arr 13 r.l.length (atL Nd.cs r.l)), C.tr false (T.arr 5 r.q.length (atL Ws.cs r.q)), C.tr false (T.arr 1 r.log.length (atL rowI r.log))])] = true := dom_ea (ea := ea_EqWd) (x := (l, r)) h
theorem iv_EqWd {l : Wd} {r : Wd} (h : ok_EqWd (l, r)) : inv ok_EqWd ea_EqWd [(0, true, [C.tr false (T.int IntKind.i64 l.c.chunks), C.tr false (T.int IntKind.i64 l.c.size), C.tr false (T.int IntKind.i64 l.c.slots), C.tr false (T.int IntKind.i64 l.c.tax), C.tr false (T.int IntKind.i64 l.c.slice), C.tr false (T.int IntKind.i64 l.c.gens), C.tr false (T.arr 1 l.p.mem.length (atL rowB l.p.mem)), C.tr false (T.arr 1 l.p.st.length (atL rowI l.p.st)), C.tr false (T.arr 1 l.p.own.length (atL rowI l.p.own)), C.tr false (T.arr 13 l.l.length (atL Nd.cs l.l)), C.tr false (T.arr 5 l.q.length (atL Ws.cs l.q)), C.tr false (T.arr 1 l.log.length (atL rowI l.log))]), (0, true, [C.tr false (T.int IntKind.i64 r.c.chunks), C.tr false (T.int IntKind.i64 r.c.size), C.tr false (T.int IntKind.i64 r.c.slots), C.tr false (T.int IntKind.i64 r.c.tax), C.tr false (T.int IntKind.i64 r.c.slice), C.tr false (T.int IntKind.i64 r.c.gens), C.tr false (T.arr 1 r.p.mem.length (atL rowB r.p.mem)), C.tr false (T.arr 1 r.p.st.length (atL rowI r.p.st)), C.tr false (T.arr 1 r.p.own.length (atL rowI r.p.own)), C.tr false (T.arr 13 r.l.length (atL Nd.cs r.l)), C.tr false (T.arr 5 r.q.length (atL Ws.cs r.q)), C.tr false (T.arr 1 r.log.length (atL rowI r.log))])] = (l, r) := inv_ea ea_EqWd_inj (x := (l, r)) h
theorem d_EqWd (l : Wd) (r : Wd) : f_EqWd (l, r) = decide (l = r) := rfl
def i_EqWd : Nat := 12
noncomputable abbrev F_EqWd : Func := f12
def kp_EqWd : List (Nat × List Nat) := [(0, [8, 9, 12, 13]), (1, [8, 9, 12, 13, 40]), (2, [16]), (3, [8, 9, 12, 13, 64]), (4, [16]), (5, [8, 9, 12, 13, 88]), (6, [16]), (7, [8, 9, 12, 13, 112]), (8, [16]), (9, [136]), (10, [16]), (11, [16])]
theorem pre_EqWd (l : Wd) (r : Wd) (n : Nat) : body prog (tabS [(i_eqCf, e_eqCf), (i_eqPl, e_eqPl), (i_eqNdS, e_eqNdS), (i_eqWsS, e_eqWsS), (i_eqLI, e_eqLI)]) kp_EqWd n F_EqWd [aR l.cs, aR r.cs] = (
 bif l.c.1 != r.c.1 then
  some ([(false, [.tr true (T.bool false)])], [(false, []), (false, [])])
 else
 bif l.c.2 != r.c.2 then
  some ([(false, [.tr true (T.bool false)])], [(false, []), (false, [])])
 else
 bif l.c.3 != r.c.3 then
  some ([(false, [.tr true (T.bool false)])], [(false, []), (false, [])])
 else
 bif l.c.4 != r.c.4 then
  some ([(false, [.tr true (T.bool false)])], [(false, []), (false, [])])
 else
 bif l.c.5 != r.c.5 then
  some ([(false, [.tr true (T.bool false)])], [(false, []), (false, [])])
 else
 bif l.c.6 != r.c.6 then
  some ([(false, [.tr true (T.bool false)])], [(false, []), (false, [])])
 else
 gd (dom ok2_LB ea2_LB [(0, false, [C.tr false (eL 1 rowB l.p.1)]), (0, false, [C.tr false (eL 1 rowB r.p.1)])]) <|
 bif !f_eqLB (inv ok2_LB ea2_LB [(0, false, [C.tr false (eL 1 rowB l.p.1)]), (0, false, [C.tr false (eL 1 rowB r.p.1)])]) then
  some ([(false, [.tr true (T.bool false)])], [(false, []), (false, [])])
 else
 gd (dom ok2_LI ea2_LI [(0, false, [C.tr false (eL 1 rowI l.p.2)]), (0, false, [C.tr false (eL 1 rowI r.p.2)])]) <|
 bif !f_eqLI (inv ok2_LI ea2_LI [(0, false, [C.tr false (eL 1 rowI l.p.2)]), (0, false, [C.tr false (eL 1 rowI r.p.2)])]) then
  some ([(false, [.tr true (T.bool false)])], [(false, []), (false, [])])
 else
 gd (dom ok2_LI ea2_LI [(0, false, [C.tr false (eL 1 rowI l.p.3)]), (0, false, [C.tr false (eL 1 rowI r.p.3)])]) <|
 bif !f_eqLI (inv ok2_LI ea2_LI [(0, false, [C.tr false (eL 1 rowI l.p.3)]), (0, false, [C.tr false (eL 1 rowI r.p.3)])]) then
  some ([(false, [.tr true (T.bool false)])], [(false, []), (false, [])])
 else
 gd (dom ok2_NdS ea2_NdS [(0, false, [C.tr false (eL 13 Nd.cs l.3)]), (0, false, [C.tr false (eL 13 Nd.cs r.3)])]) <|
 bif !f_eqNdS
    (inv ok2_NdS ea2_NdS [(0, false, [C.tr false (eL 13 Nd.cs l.3)]), (0, false, [C.tr false (eL 13 Nd.cs r.3)])]) then
  some ([(false, [.tr true (T.bool false)])], [(false, []), (false, [])])
 else
 gd (dom ok2_WsS ea2_WsS [(0, false, [C.tr false (eL 5 Ws.cs l.4)]), (0, false, [C.tr false (eL 5 Ws.cs r.4)])]) <|
 bif !f_eqWsS (inv ok2_WsS ea2_WsS [(0, false, [C.tr false (eL 5 Ws.cs l.4)]), (0, false, [C.tr false (eL 5 Ws.cs r.4)])]) then
  some ([(false, [.tr true (T.bool false)])], [(false, []), (false, [])])
 else
 gd (dom ok2_LI ea2_LI [(0, false, [C.tr false (eL 1 rowI l.5)]), (0, false, [C.tr false (eL 1 rowI r.5)])]) <|
 bif !f_eqLI (inv ok2_LI ea2_LI [(0, false, [C.tr false (eL 1 rowI l.5)]), (0, false, [C.tr false (eL 1 rowI r.5)])]) then
  some ([(false, [.tr true (T.bool false)])], [(false, []), (false, [])])
 else
 some ([(false, [.tr true (T.bool true)])], [(false, []), (false, [])])) := by kernel_rfl
theorem body_EqWd (l : Wd) (r : Wd) (n : Nat) (h : ok_EqWd (l, r)) : body prog (tabS [(i_eqCf, e_eqCf), (i_eqPl, e_eqPl), (i_eqNdS, e_eqNdS), (i_eqWsS, e_eqWsS), (i_eqLI, e_eqLI)]) kp_EqWd n F_EqWd (ea_EqWd (l, r)) = some (erB 2 (f_EqWd (l, r))) := by
  have h0 : okq_LB l.p.mem := h.1
  have h1 : okq_LI l.p.st := h.2.1
  have h2 : okq_LI l.p.own := h.2.2.1
  have h3 : okq_NdS l.l := h.2.2.2.1
  have h4 : okq_WsS l.q := h.2.2.2.2.1
  have h5 : okq_LI l.log := h.2.2.2.2.2
  unfold ea_EqWd f_EqWd
  try dsimp only
  rw [pre_EqWd]
  simp only [lt_d, ge0_d, Int.toNat_natCast, blt_d, ble_self, beq_self, decide_true, cond_true, Bool.and_self, Bool.and_true, Bool.true_and, gd_true, Nat.zero_add, List.getD_cons_zero, List.getD_cons_succ, isI_int, toI_int, isB_bool, toB_bool, eL_T, arr_ln, arr_fn, arr_wd, arr_is, arr_get, Wd.cs, int_ne, bool_ne, bool_eq, dm_eqLB h0, iv_eqLB h0, d_eqLB, dm_eqLI h1, iv_eqLI h1, d_eqLI, dm_eqLI h2, iv_eqLI h2, d_eqLI, dm_eqNdS h3, iv_eqNdS h3, d_eqNdS, dm_eqWsS h4, iv_eqWsS h4, d_eqWsS, dm_eqLI h5, iv_eqLI h5, d_eqLI, chain]
  have hxy : (l.c.chunks = r.c.chunks ∧ l.c.size = r.c.size ∧ l.c.slots = r.c.slots ∧ l.c.tax = r.c.tax ∧ l.c.slice = r.c.slice ∧ l.c.gens = r.c.gens ∧ l.p.mem = r.p.mem ∧ l.p.st = r.p.st ∧ l.p.own = r.p.own ∧ l.l = r.l ∧ l.q = r.q ∧ l.log = r.log) ↔ l = r := by
    rcases l with ⟨⟨x0, x1, x2, x3, x4, x5⟩, ⟨x6, x7, x8⟩, x9, x10, x11⟩
    rcases r with ⟨⟨y0, y1, y2, y3, y4, y5⟩, ⟨y6, y7, y8⟩, y9, y10, y11⟩
    simp [and_assoc]
  simp only [hxy]
  by_cases e : l = r
  · simp only [e, decide_true, Bool.not_true, cond_false]
    rfl
  · simp only [e, decide_false, Bool.not_false, cond_true]
    rfl
theorem s_EqWd : EntOk prog i_EqWd e_EqWd := ent_ok ea_EqWd_inj fun x hx =>
  body_sound (φ := (tabS [(i_eqCf, e_eqCf), (i_eqPl, e_eqPl), (i_eqNdS, e_eqNdS), (i_eqWsS, e_eqWsS), (i_eqLI, e_eqLI)])) (tabS_cons s_eqCf (tabS_cons s_eqPl (tabS_cons s_eqNdS (tabS_cons s_eqWsS (tabS_cons s_eqLI tabS_nil))))) mixed (kp := kp_EqWd) (n := 0) func12 (c := bodyOf F_EqWd) (by kernel_rfl) (body_EqWd x.1 x.2 (0) hx) (name_ok (by kernel_rfl))
theorem okn_ThS {l : List Th} (h : (n_ThS l : Int) ≤ 1048576) : ok_ThS l ∧ okq_ThS l := by
  have := lm
  have := bm
  unfold n_ThS at h
  exact ⟨⟨by omega, fun _ _ => trivial⟩, ⟨by omega, fun _ _ => trivial⟩⟩
theorem okn_NdS {l : List Nd} (h : (n_NdS l : Int) ≤ 1048576) : ok_NdS l ∧ okq_NdS l := by
  have := lm
  have := bm
  have e : n_NdS l = l.length + cntL n1_NdS l := rfl
  exact ⟨⟨by omega, fun x hx => ⟨(okn_LI (l := x.chunks) (by have := cntL_mem n1_NdS hx; have : n1_NdS x = n_LI x.chunks + n_ThS x.things + n_LI x.tags := rfl; omega)).1, (okn_ThS (l := x.things) (by have := cntL_mem n1_NdS hx; have : n1_NdS x = n_LI x.chunks + n_ThS x.things + n_LI x.tags := rfl; omega)).1, (okn_LI (l := x.tags) (by have := cntL_mem n1_NdS hx; have : n1_NdS x = n_LI x.chunks + n_ThS x.things + n_LI x.tags := rfl; omega)).1⟩⟩, ⟨by omega, fun x hx => ⟨(okn_LI (l := x.chunks) (by have := cntL_mem n1_NdS hx; have : n1_NdS x = n_LI x.chunks + n_ThS x.things + n_LI x.tags := rfl; omega)).2, (okn_ThS (l := x.things) (by have := cntL_mem n1_NdS hx; have : n1_NdS x = n_LI x.chunks + n_ThS x.things + n_LI x.tags := rfl; omega)).2, (okn_LI (l := x.tags) (by have := cntL_mem n1_NdS hx; have : n1_NdS x = n_LI x.chunks + n_ThS x.things + n_LI x.tags := rfl; omega)).2⟩⟩⟩
theorem okn_WsS {l : List Ws} (h : (n_WsS l : Int) ≤ 1048576) : ok_WsS l ∧ okq_WsS l := by
  have := lm
  have := bm
  have e : n_WsS l = l.length + cntL n1_WsS l := rfl
  exact ⟨⟨by omega, fun x hx => ⟨(okn_LI (l := x.tags) (by have := cntL_mem n1_WsS hx; have : n1_WsS x = n_LI x.tags + n_LI x.chunks := rfl; omega)).1, (okn_LI (l := x.chunks) (by have := cntL_mem n1_WsS hx; have : n1_WsS x = n_LI x.tags + n_LI x.chunks := rfl; omega)).1⟩⟩, ⟨by omega, fun x hx => ⟨(okn_LI (l := x.tags) (by have := cntL_mem n1_WsS hx; have : n1_WsS x = n_LI x.tags + n_LI x.chunks := rfl; omega)).2, (okn_LI (l := x.chunks) (by have := cntL_mem n1_WsS hx; have : n1_WsS x = n_LI x.tags + n_LI x.chunks := rfl; omega)).2⟩⟩⟩
end Go.Mach.F
namespace Go.Mach.F
open Go Go.Mach Go.Proofs.Try
--=set_option maxRecDepth 100000
def inI (k : Int) : Prop := -9223372036854775808 ≤ k ∧ k ≤ 9223372036854775807
theorem row1 (x : Int) (j k' : Nat) : (Option.rec (motive := fun _ => T) T.hole (fun val => val) ([[T.int IntKind.i64 x]].getD j [])[k']? : T) = rowsT [[T.int IntKind.i64 x]] j k' := by
  unfold rowsT
  generalize [[T.int IntKind.i64 x]].getD j [] = q
  rw [List.getD_eq_getElem?_getD]
  cases q[k']? <;> rfl
theorem app1 (out : List Int) (x : Int) : appF out.length (atL rowI out) (plainF (cutT 0 1 (rowsT [[T.int .i64 x]]))) = atL rowI (out ++ [x]) := by
  funext j k
  unfold appF
  rw [blt_d, Bool.cond_decide]
  by_cases h : j < out.length
  · rw [if_pos h]
    unfold atL
    rw [List.getElem?_append_left h]
  · rw [if_neg h]
    unfold atL
    rw [List.getElem?_append_right (by omega)]
    obtain ⟨d, hd⟩ : ∃ d, d = j - out.length := ⟨_, rfl⟩
    rw [← hd]
    cases d with
    | zero => cases k <;> rfl
    | succ d =>
      cases d <;> rfl
def i_within : Nat := 86
noncomputable abbrev F_within : Func := f86
def kp_within : List (Nat × List Nat) := [(0, [0, 4, 8, 44, 48, 52]), (1, [24])]
noncomputable def e_within : Ent := inl [] prog (tabS []) kp_within 0 F_within
theorem s_within : EntOk prog i_within e_within := inl_ok tabS_nil mixed (c := bodyOf F_within) func86 (by kernel_rfl) (name_ok (by kernel_rfl))
def i_isSlot : Nat := 123
noncomputable abbrev F_isSlot : Func := f123
def kp_isSlot : List (Nat × List Nat) := [(0, [0, 4]), (1, [16])]
noncomputable def e_isSlot : Ent := inl [] prog (tabS [(i_within, e_within)]) kp_isSlot 0 F_isSlot
theorem s_isSlot : EntOk prog i_isSlot e_isSlot := inl_ok (tabS_cons s_within tabS_nil) mixed (c := bodyOf F_isSlot) func123 (by kernel_rfl) (name_ok (by kernel_rfl))
def i_l9Place : Nat := 133
noncomputable abbrev F_l9Place : Func := f133
def kp_l9Place : List (Nat × List Nat) := [(0, [0, 4, 32, 36, 40, 44]), (1, [16])]
noncomputable def e_l9Place : Ent := inl [] prog (tabS []) kp_l9Place 0 F_l9Place
theorem s_l9Place : EntOk prog i_l9Place e_l9Place := inl_ok tabS_nil mixed (c := bodyOf F_l9Place) func133 (by kernel_rfl) (name_ok (by kernel_rfl))
end Go.Mach.F
namespace Go.Mach.F
open Go Go.Mach Go.Proofs.Try
--=set_option maxRecDepth 100000
def i_l1In : Nat := 81
noncomputable abbrev F_l1In : Func := f81
def kp_l1In : List (Nat × List Nat) := [(0, [0, 4, 8, 44, 48, 52]), (1, [24])]
noncomputable def e_l1In : Ent := inl [] prog (tabS []) kp_l1In 0 F_l1In
theorem s_l1In : EntOk prog i_l1In e_l1In := inl_ok tabS_nil mixed (c := bodyOf F_l1In) func81 (by kernel_rfl) (name_ok (by kernel_rfl))
end Go.Mach.F
namespace Go.Mach.F
open Go Go.Mach Go.Proofs.Try
theorem setF_list {α : Type} {row : α → List T} {l : List α} {j k : Nat} {v : T} {x y : α} (hx : l[j]? = some x) (hy : row y = (row x).set k v) (hk : k < (row x).length) : setF j k v (atL row l) = atL row (l.set j y) := by
  refine set_atL (List.getElem?_eq_some_iff.1 hx).1 fun j' k' => ?_
  rw [setF_d, hy]
  by_cases h : j' = j
  · subst h
    by_cases h2 : k' = k
    · subst h2
      rw [if_pos ⟨rfl, rfl⟩, if_pos rfl, List.getD_eq_getElem?_getD, List.getElem?_set_self hk]
      rfl
    · rw [if_neg fun e => h2 e.2, if_pos rfl, atL_of hx, List.getD_eq_getElem?_getD, List.getD_eq_getElem?_getD, List.getElem?_set_ne (Ne.symm h2)]
  · rw [if_neg fun e => h e.1, if_neg h]
theorem appF_app {α : Type} (row : α → List T) (l l' : List α) : appF l.length (atL row l) (atL row l') = atL row (l ++ l') := by
  funext j k
  unfold appF
  rw [blt_d, Bool.cond_decide]
  by_cases h : j < l.length
  · rw [if_pos h]
    unfold atL
    rw [List.getElem?_append_left h]
  · rw [if_neg h]
    unfold atL
    rw [List.getElem?_append_right (by omega)]
theorem rows1 {α : Type} (row : α → List T) (x : α) : rowsT [row x] = atL row [x] := by
  funext j k
  cases j with
  | zero => rfl
  | succ j => simp [rowsT, atL]
theorem plain1 (x : Int) : plainF (cutT 0 1 (rowsT [[T.int .i64 x]])) = atL rowI [x] := by
  rw [show [T.int .i64 x] = rowI x from rfl, rows1, show cutT 0 1 (atL rowI [x]) = atL rowI [x] from cut_all rowI [x], plain_I]
end Go.Mach.F
namespace Go.Mach.F
open Go Go.Mach Go.Proofs.Try
--=set_option maxRecDepth 100000
def inR (n lo hi : Int) : Bool := decide (lo ≤ n) && decide (n ≤ hi)
def cdv (x y : Int) : Int := bif inR x 0 1000000000 && inR y 1 1000000000 then IntKind.i64.wrap (Int.tdiv (IntKind.i64.wrap (IntKind.i64.wrap (x + y) - 1)) y) else 0
def ok_iCeilDiv (x : Int × Int) : Prop := True
def ea_iCeilDiv (x : Int × Int) : List Arg := [aI x.1, aI x.2]
def f_iCeilDiv (x : Int × Int) : Int := cdv x.1 x.2
noncomputable def e_iCeilDiv : Ent := ent [] ok_iCeilDiv ea_iCeilDiv (erI 2) f_iCeilDiv
theorem ea_iCeilDiv_inj (x y : Int × Int) (h : ea_iCeilDiv x = ea_iCeilDiv y) : x = y := by
  obtain ⟨x1, y1⟩ := x
  obtain ⟨x2, y2⟩ := y
  simp only [ea_iCeilDiv, List.cons.injEq, and_true, true_and] at h
  obtain ⟨e0, e1⟩ := h
  obtain rfl := aI_inj e0
  obtain rfl := aI_inj e1
  rfl
theorem dm_iCeilDiv {x : Int} {y : Int} (h : ok_iCeilDiv (x, y)) : dom ok_iCeilDiv ea_iCeilDiv [(0, false, [C.tr false (T.int IntKind.i64 x)]), (0, false, [C.tr false (T.int IntKind.i64 y)])] = true := dom_ea (ea := ea_iCeilDiv) (x := (x, y)) h
theorem iv_iCeilDiv {x : Int} {y : Int} (h : ok_iCeilDiv (x, y)) : inv ok_iCeilDiv ea_iCeilDiv [(0, false, [C.tr false (T.int IntKind.i64 x)]), (0, false, [C.tr false (T.int IntKind.i64 y)])] = (x, y) := inv_ea ea_iCeilDiv_inj (x := (x, y)) h
def i_iCeilDiv : Nat := 42
noncomputable abbrev F_iCeilDiv : Func := f42
def kp_iCeilDiv : List (Nat × List Nat) := [(0, [0, 4, 36, 40, 44]), (1, [0, 4, 48]), (2, [16]), (3, [16])]
theorem pre_iCeilDiv (x : Int) (y : Int) (n : Nat) : body prog (tabS [(i_within, e_within)]) kp_iCeilDiv n F_iCeilDiv [aI x, aI y] = (
 bif decide (0 ≤ x) then
  bif !decide (x ≤ 1000000000) then
   some ([(false, [.tr true (T.int IntKind.i64 0)])], [(false, []), (false, [])])
  else
  bif decide (1 ≤ y) then
   bif !decide (y ≤ 1000000000) then
    some ([(false, [.tr true (T.int IntKind.i64 0)])], [(false, []), (false, [])])
   else
   gd (!y == 0) <|
   some ([(false, [.tr true (T.int IntKind.i64 (IntKind.i64.wrap ((IntKind.i64.wrap (IntKind.i64.wrap (x + y) - 1)).tdiv y)))])], [(false, []), (false, [])])
  else
  some ([(false, [.tr true (T.int IntKind.i64 0)])], [(false, []), (false, [])])
 else
 some ([(false, [.tr true (T.int IntKind.i64 0)])], [(false, []), (false, [])])) := by kernel_rfl
def ok_sCeilDiv (x : Int × Int) : Prop := True
def ea_sCeilDiv (x : Int × Int) : List Arg := [aI x.1, aI x.2]
def f_sCeilDiv (x : Int × Int) : Int := cdv x.1 x.2
noncomputable def e_sCeilDiv : Ent := ent [] ok_sCeilDiv ea_sCeilDiv (erI 2) f_sCeilDiv
theorem ea_sCeilDiv_inj (x y : Int × Int) (h : ea_sCeilDiv x = ea_sCeilDiv y) : x = y := by
  obtain ⟨x1, y1⟩ := x
  obtain ⟨x2, y2⟩ := y
  simp only [ea_sCeilDiv, List.cons.injEq, and_true, true_and] at h
  obtain ⟨e0, e1⟩ := h
  obtain rfl := aI_inj e0
  obtain rfl := aI_inj e1
  rfl
theorem dm_sCeilDiv {x : Int} {y : Int} (h : ok_sCeilDiv (x, y)) : dom ok_sCeilDiv ea_sCeilDiv [(0, false, [C.tr false (T.int IntKind.i64 x)]), (0, false, [C.tr false (T.int IntKind.i64 y)])] = true := dom_ea (ea := ea_sCeilDiv) (x := (x, y)) h
theorem iv_sCeilDiv {x : Int} {y : Int} (h : ok_sCeilDiv (x, y)) : inv ok_sCeilDiv ea_sCeilDiv [(0, false, [C.tr false (T.int IntKind.i64 x)]), (0, false, [C.tr false (T.int IntKind.i64 y)])] = (x, y) := inv_ea ea_sCeilDiv_inj (x := (x, y)) h
def i_sCeilDiv : Nat := 35
noncomputable abbrev F_sCeilDiv : Func := f35
def kp_sCeilDiv : List (Nat × List Nat) := [(0, [0, 4, 36, 40, 44]), (1, [0, 4, 48]), (2, [16]), (3, [16])]
theorem pre_sCeilDiv (x : Int) (y : Int) (n : Nat) : body prog (tabS [(i_l1In, e_l1In)]) kp_sCeilDiv n F_sCeilDiv [aI x, aI y] = (
 bif decide (0 ≤ x) then
  bif !decide (x ≤ 1000000000) then
   some ([(false, [.tr true (T.int IntKind.i64 0)])], [(false, []), (false, [])])
  else
  bif decide (1 ≤ y) then
   bif !decide (y ≤ 1000000000) then
    some ([(false, [.tr true (T.int IntKind.i64 0)])], [(false, []), (false, [])])
   else
   gd (!y == 0) <|
   some ([(false, [.tr true (T.int IntKind.i64 (IntKind.i64.wrap ((IntKind.i64.wrap (IntKind.i64.wrap (x + y) - 1)).tdiv y)))])], [(false, []), (false, [])])
  else
  some ([(false, [.tr true (T.int IntKind.i64 0)])], [(false, []), (false, [])])
 else
 some ([(false, [.tr true (T.int IntKind.i64 0)])], [(false, []), (false, [])])) := by kernel_rfl
end Go.Mach.F
namespace Go.Mach.F
open Go Go.Mach Go.Proofs.Try
theorem body_iCeilDiv (x y : Int) (n : Nat) (h : ok_iCeilDiv (x, y)) : body prog (tabS [(i_within, e_within)]) kp_iCeilDiv n F_iCeilDiv (ea_iCeilDiv (x, y)) = some (erI 2 (f_iCeilDiv (x, y))) := by
  unfold ea_iCeilDiv f_iCeilDiv cdv inR
  dsimp only
  rw [pre_iCeilDiv]
  by_cases h1 : 0 ≤ x
  case neg =>
    simp only [h1, decide_false, cond_false, Bool.false_and]
    rfl
  by_cases h2 : x ≤ 1000000000
  case neg =>
    simp only [h1, h2, decide_true, decide_false, cond_true, cond_false, Bool.and_false, Bool.false_and, Bool.not_false]
    rfl
  by_cases h3 : 1 ≤ y
  case neg =>
    simp only [h1, h2, h3, decide_true, decide_false, cond_true, cond_false, Bool.and_false, Bool.false_and, Bool.not_true, Bool.and_self]
    rfl
  by_cases h4 : y ≤ 1000000000
  case neg =>
    simp only [h1, h2, h3, h4, decide_true, decide_false, cond_true, cond_false, Bool.and_false, Bool.and_self, Bool.not_true, Bool.not_false]
    rfl
  have h5 : ¬ y = 0 := by omega
  simp only [h1, h2, h3, h4, h5, int_eq, decide_true, decide_false, cond_true, cond_false, Bool.and_self, Bool.not_true, Bool.not_false, gd_true]
  rfl
theorem s_iCeilDiv : EntOk prog i_iCeilDiv e_iCeilDiv := ent_ok ea_iCeilDiv_inj fun x hx =>
  body_sound (φ := (tabS [(i_within, e_within)])) (tabS_cons s_within tabS_nil) mixed (kp := kp_iCeilDiv) (n := 0) func42 (c := bodyOf F_iCeilDiv) (by kernel_rfl) (body_iCeilDiv x.1 x.2 (0) hx) (name_ok (by kernel_rfl))
theorem body_sCeilDiv (x y : Int) (n : Nat) (h : ok_sCeilDiv (x, y)) : body prog (tabS [(i_l1In, e_l1In)]) kp_sCeilDiv n F_sCeilDiv (ea_sCeilDiv (x, y)) = some (erI 2 (f_sCeilDiv (x, y))) := by
  unfold ea_sCeilDiv f_sCeilDiv cdv inR
  dsimp only
  rw [pre_sCeilDiv]
  by_cases h1 : 0 ≤ x
  case neg =>
    simp only [h1, decide_false, cond_false, Bool.false_and]
    rfl
  by_cases h2 : x ≤ 1000000000
  case neg =>
    simp only [h1, h2, decide_true, decide_false, cond_true, cond_false, Bool.and_false, Bool.false_and, Bool.not_false]
    rfl
  by_cases h3 : 1 ≤ y
  case neg =>
    simp only [h1, h2, h3, decide_true, decide_false, cond_true, cond_false, Bool.and_false, Bool.false_and, Bool.not_true, Bool.and_self]
    rfl
  by_cases h4 : y ≤ 1000000000
  case neg =>
    simp only [h1, h2, h3, h4, decide_true, decide_false, cond_true, cond_false, Bool.and_false, Bool.and_self, Bool.not_true, Bool.not_false]
    rfl
  have h5 : ¬ y = 0 := by omega
  simp only [h1, h2, h3, h4, h5, int_eq, decide_true, decide_false, cond_true, cond_false, Bool.and_self, Bool.not_true, Bool.not_false, gd_true]
  rfl
theorem s_sCeilDiv : EntOk prog i_sCeilDiv e_sCeilDiv := ent_ok ea_sCeilDiv_inj fun x hx =>
  body_sound (φ := (tabS [(i_l1In, e_l1In)])) (tabS_cons s_l1In tabS_nil) mixed (kp := kp_sCeilDiv) (n := 0) func35 (c := bodyOf F_sCeilDiv) (by kernel_rfl) (body_sCeilDiv x.1 x.2 (0) hx) (name_ok (by kernel_rfl))
end Go.Mach.F
namespace Go.Mach.F
open Go Go.Mach Go.Proofs.Try
--=set_option maxRecDepth 100000
def nd (l : List Nd) (k : Int) : Nd := l.getD k.toNat default
def ri (r : List Int) (i : Nat) : Int := r.getD i 0
theorem ri_get {r : List Int} {i : Nat} (h : i < r.length) : r[i]? = some (ri r i) := by
  unfold ri
  rw [List.getD_eq_getElem?_getD, List.getElem?_eq_getElem h]
  rfl
section
variable {φ : Sems} {kp : List (Nat × List Nat)} {fn : Func} {p : List Nat} {n : Nat} {K : Ex → St → Res}
theorem forAny (N : Nat) (st : Nat → St) (e : St) (j : Nat) (bad : Nat → Bool) (ex : Ex) (hex : ex ≠ .normal) (eb : Nat → St) (v0 v1 : Res)
    (hr : ∀ i (K : Ex → St → Res), i < N → roundAt prog φ kp fn p n (st i) K = bif bad i then K ex (eb i) else K .normal (st (i + 1))) (he : ∀ K : Ex → St → Res, roundAt prog φ kp fn p n (st N) K = K (.exit j) e)
    (h0 : ∀ i, K ex (eb i) = v0) (h1 : K (.exit j) e = v1) :
    ∀ m, N + 1 ≤ m → loopAt prog φ kp fn p n m (st 0) K = bif (List.range N).any bad then v0 else v1 := by
  intro m hm
  rw [forExit N st e j bad ex hex eb hr he m hm]
  cases hf : (List.range N).find? bad with
  | some i =>
    have : (List.range N).any bad = true := by
      rw [List.any_eq_true]
      exact ⟨i, List.mem_of_find?_eq_some hf, List.find?_some hf⟩
    rw [this]
    exact h0 i
  | none =>
    have : (List.range N).any bad = false := by
      rw [List.any_eq_false]
      exact List.find?_eq_none.1 hf
    rw [this]
    exact h1
end
end Go.Mach.F
namespace Go.Mach.F
open Go Go.Mach Go.Proofs.Try
--=set_option maxRecDepth 100000
/-- The next ones of a list of children are within int64. -/
def nxI (l : List Nd) : Prop := ∀ x ∈ l, inI x.next
def kidN (l : List Nd) : Nat → Int → List Int
  | 0, _ => []
  | n + 1, f => bif decide (1 ≤ f) && decide (f ≤ (l.length : Int)) then (f - 1) :: kidN l n (nd l (f - 1)).next else []
def kids (l : List Nd) (f : Int) : List Int := kidN l l.length f
def ok_iKid (x : List Nd × Int) : Prop := x.1.length ≤ LM ∧ inI x.2 ∧ nxI x.1
def ea_iKid (x : List Nd × Int) : List Arg := [aT (eL 13 Nd.cs x.1), aI x.2]
def f_iKid (x : List Nd × Int) : List Int := kids x.1 x.2
noncomputable def e_iKid : Ent := ent [] ok_iKid ea_iKid (fun r => erT 2 (eI r)) f_iKid
theorem ea_iKid_inj (x y : List Nd × Int) (h : ea_iKid x = ea_iKid y) : x = y := by
  obtain ⟨l1, f1⟩ := x
  obtain ⟨l2, f2⟩ := y
  simp only [ea_iKid, List.cons.injEq, and_true, true_and] at h
  obtain ⟨e0, e1⟩ := h
  obtain rfl := eL_inj Nd.cs_inj (aT_inj e0)
  obtain rfl := aI_inj e1
  rfl
theorem dm_iKid {l : List Nd} {f : Int} (h : ok_iKid (l, f)) : dom ok_iKid ea_iKid [(0, false, [C.tr false (T.arr 13 l.length (atL Nd.cs l))]), (0, false, [C.tr false (T.int IntKind.i64 f)])] = true := dom_ea (ea := ea_iKid) (x := (l, f)) h
theorem iv_iKid {l : List Nd} {f : Int} (h : ok_iKid (l, f)) : inv ok_iKid ea_iKid [(0, false, [C.tr false (T.arr 13 l.length (atL Nd.cs l))]), (0, false, [C.tr false (T.int IntKind.i64 f)])] = (l, f) := inv_ea ea_iKid_inj (x := (l, f)) h
theorem d_iKid (l : List Nd) (f : Int) : f_iKid (l, f) = kids l f := rfl
def i_iKid : Nat := 96
noncomputable abbrev F_iKid : Func := f96
def kp_iKid : List (Nat × List Nat) := [(0, [0, 4]), (1, [0, 4, 20]), (2, [0, 20, 24]), (3, [0, 20, 24, 76]), (4, [0, 20, 24]), (5, [0, 20, 24]), (6, [16])]
def ts_iKid : List Nat := [0, 0]
def st_iKid_1 (l : List Nd) (f : Int) (nx20 : Nat) (fx20 : Nat → Nat → T) (x24 : Int) : St := [(0, ⟨z0, [(false, [.tr false (eL 13 Nd.cs l)])]⟩), (20, ⟨z0, [(false, [.tr true (.arr (1) (nx20) (fx20))])]⟩), (24, ⟨z0, [(false, [.tr true (T.int IntKind.i64 x24)])]⟩)]
def ex_iKid_1_1 (l : List Nd) (f : Int) (nx20 : Nat) (fx20 : Nat → Nat → T) (x24 : Int) : St := [(0, ⟨z0, [(false, [.tr false (eL 13 Nd.cs l)])]⟩), (20, ⟨z0, [(false, [.tr true (.arr (1) (nx20) (fx20))])]⟩), (24, ⟨z0, [(false, [.tr true (T.int IntKind.i64 x24)])]⟩), (76, ⟨z0, []⟩)]
theorem round_iKid_1 (l : List Nd) (f : Int) (nx20 : Nat) (fx20 : Nat → Nat → T) (x24 : Int) (n : Nat) (K : Ex → St → Res) : roundAt prog (tabS [(i_isSlot, e_isSlot)]) kp_iKid F_iKid [1, 1, 0, 1, 0] n (st_iKid_1 l f nx20 fx20 x24) K = (
 bif decide (0 ≤ x24) then
  bif decide (x24 ≤ IntKind.i64.wrap ((↑l.length : Int) - 1)) then
   bif decide ((↑nx20 : Int) < (↑l.length : Int)) then
    gd (nx20.ble nx20 && true) <|
    gd (((nx20 + 1) * 8).ble 70368744177664 && (nx20 + 1).ble 70368744177664) <|
    gd ((nx20 + 1).ble (nx20 + 1) && true) <|
    gd (decide (0 ≤ x24) && (x24.toNat.blt l.length && true)) <|
    gd (T.isI IntKind.i64 (atL Nd.cs l x24.toNat 6)) <|
    K .normal (st_iKid_1 l f (nx20 + 1) (appF nx20 fx20 (plainF (cutT 0 1 (rowsT [[T.int IntKind.i64 x24]])))) (IntKind.i64.wrap ((atL Nd.cs l x24.toNat 6).toI - 1)))
   else
   K (.exit 0) (ex_iKid_1_1 l f nx20 fx20 x24)
  else
  K (.exit 0) (ex_iKid_1_1 l f nx20 fx20 x24)
 else
 K (.exit 0) (ex_iKid_1_1 l f nx20 fx20 x24)) := by kernel_rfl
theorem post_iKid_1_1 (l : List Nd) (f : Int) (nx20 : Nat) (fx20 : Nat → Nat → T) (x24 : Int) (n : Nat) : contAt prog (tabS [(i_isSlot, e_isSlot)]) kp_iKid F_iKid ts_iKid [1, 1, 0, 1, 0] [] n (.exit 0) (ex_iKid_1_1 l f nx20 fx20 x24) = (
 gd (nx20.ble nx20 && true) <|
 gd (nx20.ble nx20 && true) <|
 some ([(false, [.tr true (.arr (1) (nx20) (fx20))])], [(false, []), (false, [])])) := by kernel_rfl
theorem pre_iKid (l : List Nd) (f : Int) (n : Nat) : body prog (tabS [(i_isSlot, e_isSlot)]) kp_iKid n F_iKid [aT (eL 13 Nd.cs l), aI f] = (
 loopAt prog (tabS [(i_isSlot, e_isSlot)]) kp_iKid F_iKid [1, 1, 0, 1, 0] n n (st_iKid_1 l f (0) (rowsT []) (IntKind.i64.wrap (f - 1))) (contAt prog (tabS [(i_isSlot, e_isSlot)]) kp_iKid F_iKid ts_iKid [1, 1, 0, 1, 0] [] n)) := by kernel_rfl
def ok_sKid (x : List Nd × Int) : Prop := x.1.length ≤ LM ∧ inI x.2 ∧ nxI x.1
def ea_sKid (x : List Nd × Int) : List Arg := [aT (eL 13 Nd.cs x.1), aI x.2]
def f_sKid (x : List Nd × Int) : List Int := kids x.1 x.2
noncomputable def e_sKid : Ent := ent [] ok_sKid ea_sKid (fun r => erT 2 (eI r)) f_sKid
theorem ea_sKid_inj (x y : List Nd × Int) (h : ea_sKid x = ea_sKid y) : x = y := by
  obtain ⟨l1, f1⟩ := x
  obtain ⟨l2, f2⟩ := y
  simp only [ea_sKid, List.cons.injEq, and_true, true_and] at h
  obtain ⟨e0, e1⟩ := h
  obtain rfl := eL_inj Nd.cs_inj (aT_inj e0)
  obtain rfl := aI_inj e1
  rfl
theorem dm_sKid {l : List Nd} {f : Int} (h : ok_sKid (l, f)) : dom ok_sKid ea_sKid [(0, false, [C.tr false (T.arr 13 l.length (atL Nd.cs l))]), (0, false, [C.tr false (T.int IntKind.i64 f)])] = true := dom_ea (ea := ea_sKid) (x := (l, f)) h
theorem iv_sKid {l : List Nd} {f : Int} (h : ok_sKid (l, f)) : inv ok_sKid ea_sKid [(0, false, [C.tr false (T.arr 13 l.length (atL Nd.cs l))]), (0, false, [C.tr false (T.int IntKind.i64 f)])] = (l, f) := inv_ea ea_sKid_inj (x := (l, f)) h
theorem d_sKid (l : List Nd) (f : Int) : f_sKid (l, f) = kids l f := rfl
def i_sKid : Nat := 92
noncomputable abbrev F_sKid : Func := f92
def kp_sKid : List (Nat × List Nat) := [(0, [0, 4]), (1, [0, 4, 20]), (2, [0, 4, 20, 64]), (3, [0, 4, 20]), (4, [0, 4, 20]), (5, [16])]
def ts_sKid : List Nat := [0, 0]
def st_sKid_1 (l : List Nd) (f : Int) (x4 : Int) (nx20 : Nat) (fx20 : Nat → Nat → T) : St := [(0, ⟨z0, [(false, [.tr false (eL 13 Nd.cs l)])]⟩), (4, ⟨z0, [(false, [.tr true (T.int IntKind.i64 x4)])]⟩), (20, ⟨z0, [(false, [.tr true (.arr (1) (nx20) (fx20))])]⟩)]
def ex_sKid_1_1 (l : List Nd) (f : Int) (x4 : Int) (nx20 : Nat) (fx20 : Nat → Nat → T) : St := [(0, ⟨z0, [(false, [.tr false (eL 13 Nd.cs l)])]⟩), (4, ⟨z0, [(false, [.tr true (T.int IntKind.i64 x4)])]⟩), (20, ⟨z0, [(false, [.tr true (.arr (1) (nx20) (fx20))])]⟩), (64, ⟨z0, []⟩)]
theorem round_sKid_1 (l : List Nd) (f : Int) (x4 : Int) (nx20 : Nat) (fx20 : Nat → Nat → T) (n : Nat) (K : Ex → St → Res) : roundAt prog (tabS [(i_l9Place, e_l9Place)]) kp_sKid F_sKid [1, 1, 0, 0] n (st_sKid_1 l f x4 nx20 fx20) K = (
 bif decide (1 ≤ x4) then
  bif decide (x4 ≤ (↑l.length : Int)) then
   bif decide ((↑nx20 : Int) < (↑l.length : Int)) then
    gd (nx20.ble nx20 && true) <|
    gd (((nx20 + 1) * 8).ble 70368744177664 && (nx20 + 1).ble 70368744177664) <|
    gd ((nx20 + 1).ble (nx20 + 1) && true) <|
    gd (decide (0 ≤ IntKind.i64.wrap (x4 - 1)) && ((IntKind.i64.wrap (x4 - 1)).toNat.blt l.length && true)) <|
    gd (T.isI IntKind.i64 (atL Nd.cs l (IntKind.i64.wrap (x4 - 1)).toNat 6)) <|
    K .normal (st_sKid_1 l f ((atL Nd.cs l (IntKind.i64.wrap (x4 - 1)).toNat 6).toI) (nx20 + 1) (appF nx20 fx20 (plainF (cutT 0 1 (rowsT [[T.int IntKind.i64 (IntKind.i64.wrap (x4 - 1))]])))))
   else
   K (.exit 0) (ex_sKid_1_1 l f x4 nx20 fx20)
  else
  K (.exit 0) (ex_sKid_1_1 l f x4 nx20 fx20)
 else
 K (.exit 0) (ex_sKid_1_1 l f x4 nx20 fx20)) := by kernel_rfl
theorem post_sKid_1_1 (l : List Nd) (f : Int) (x4 : Int) (nx20 : Nat) (fx20 : Nat → Nat → T) (n : Nat) : contAt prog (tabS [(i_l9Place, e_l9Place)]) kp_sKid F_sKid ts_sKid [1, 1, 0, 0] [] n (.exit 0) (ex_sKid_1_1 l f x4 nx20 fx20) = (
 gd (nx20.ble nx20 && true) <|
 gd (nx20.ble nx20 && true) <|
 some ([(false, [.tr true (.arr (1) (nx20) (fx20))])], [(false, []), (false, [])])) := by kernel_rfl
theorem pre_sKid (l : List Nd) (f : Int) (n : Nat) : body prog (tabS [(i_l9Place, e_l9Place)]) kp_sKid n F_sKid [aT (eL 13 Nd.cs l), aI f] = (
 loopAt prog (tabS [(i_l9Place, e_l9Place)]) kp_sKid F_sKid [1, 1, 0, 0] n n (st_sKid_1 l f (f) (0) (rowsT [])) (contAt prog (tabS [(i_l9Place, e_l9Place)]) kp_sKid F_sKid ts_sKid [1, 1, 0, 0] [] n)) := by kernel_rfl
end Go.Mach.F
namespace Go.Mach.F
open Go Go.Mach Go.Proofs.Try
theorem kidN_out {l : List Nd} {f : Int} (h : ¬ (1 ≤ f ∧ f ≤ (l.length : Int))) (n : Nat) : kidN l n f = [] := by
  cases n with
  | zero => rfl
  | succ n =>
    unfold kidN
    by_cases h1 : 1 ≤ f
    · rw [decide_eq_false (fun e => h ⟨h1, e⟩), Bool.and_false, cond_false]
    · rw [decide_eq_false h1, Bool.false_and, cond_false]
theorem nd_getk {l : List Nd} {k : Int} (h : k.toNat < l.length) : l[k.toNat]? = some (nd l k) := by
  unfold nd
  rw [List.getD_eq_getElem?_getD, List.getElem?_eq_getElem h]
  rfl
theorem nd_in {l : List Nd} {k : Int} (h : k.toNat < l.length) : nd l k ∈ l := List.mem_of_getElem? (nd_getk h)
theorem loop_iKid (l : List Nd) (f0 : Int) (hl : l.length ≤ LM) (hx : nxI l) (n mm : Nat) : ∀ (r : Nat) (f : Int) (out : List Int), inI f → out.length + r = l.length →
    loopAt prog (tabS [(i_isSlot, e_isSlot)]) kp_iKid F_iKid [1, 1, 0, 1, 0] n (r + 1 + mm) (st_iKid_1 l f0 out.length (atL rowI out) (IntKind.i64.wrap (f - 1))) (contAt prog (tabS [(i_isSlot, e_isSlot)]) kp_iKid F_iKid ts_iKid [1, 1, 0, 1, 0] [] n) = some (erT 2 (eI (out ++ kidN l r f))) := by
  have hlm := lm
  have fin : ∀ (f : Int) (out : List Int), contAt prog (tabS [(i_isSlot, e_isSlot)]) kp_iKid F_iKid ts_iKid [1, 1, 0, 1, 0] [] n (.exit 0) (ex_iKid_1_1 l f0 out.length (atL rowI out) (IntKind.i64.wrap (f - 1))) = some (erT 2 (eI (out ++ []))) := fun f out => by
    rw [post_iKid_1_1, List.append_nil]
    simp only [ble_d, Nat.le_refl, decide_true, Bool.and_true, gd_true]
    rfl
  intro r
  induction r with
  | zero =>
    intro f out hk hr
    rw [show 0 + 1 + mm = mm + 1 from by omega, loopAt_succ, round_iKid_1]
    simp only [lt_d, decide_eq_false (show ¬ out.length < l.length by omega), cond_false, Bool.cond_self]
    exact fin f out
  | succ r ih =>
    intro f out hk hr
    rw [show r + 1 + 1 + mm = (r + 1 + mm) + 1 from by omega, loopAt_succ, round_iKid_1]
    have hk' := hk
    unfold inI at hk'
    have w1 : IntKind.i64.wrap ((l.length : Int) - 1) = (l.length : Int) - 1 := by rw [IntKind.wrap_i64]; omega
    by_cases h : 1 ≤ f ∧ f ≤ (l.length : Int)
    · have w2 : IntKind.i64.wrap (f - 1) = f - 1 := by rw [IntKind.wrap_i64]; omega
      have hb : (f - 1).toNat < l.length := by omega
      have hx1 := nd_getk hb
      have h0 : 0 ≤ f - 1 := by omega
      have h1 : f - 1 ≤ (l.length : Int) - 1 := by omega
      have h2 := h.1
      have h3 := h.2
      have hs : (out.length + 1) * 8 ≤ 70368744177664 := by omega
      have hs2 : out.length + 1 ≤ 70368744177664 := by omega
      have ho : out.length < l.length := by omega
      have e3 : kidN l (r + 1) f = (f - 1) :: kidN l r (nd l (f - 1)).next := by
        simp only [kidN, decide_eq_true h2, decide_eq_true h3, Bool.and_self, cond_true]
      simp only [lt_d, ge0_d, Int.toNat_natCast, blt_d, ble_self, beq_self, decide_true, cond_true, Bool.and_self, Bool.and_true, Bool.true_and, gd_true, Nat.zero_add, List.getD_cons_zero, List.getD_cons_succ, isI_int, toI_int, isB_bool, toB_bool, eL_T, arr_ln, arr_fn, arr_wd, arr_is, arr_get, w1, w2, ble_d, h0, h1, h2, h3, hb, ho, hs, hs2, Nat.le_refl, atL_of hx1, Nd.cs, app1]
      rw [e3]
      have := ih (nd l (f - 1)).next (out ++ [f - 1]) (hx _ (nd_in hb)) (by rw [List.length_append, List.length_singleton]; omega)
      rw [List.append_assoc, List.length_append, List.length_singleton] at this
      exact this
    · rw [kidN_out h]
      by_cases h0 : 0 ≤ IntKind.i64.wrap (f - 1)
      · have h1 : ¬ IntKind.i64.wrap (f - 1) ≤ (l.length : Int) - 1 := by rw [IntKind.wrap_i64] at h0 ⊢; omega
        simp only [w1, h0, h1, decide_true, decide_false, cond_true, cond_false]
        exact fin f out
      · simp only [h0, decide_false, cond_false]
        exact fin f out
theorem body_iKid (l : List Nd) (f : Int) (h : ok_iKid (l, f)) : body prog (tabS [(i_isSlot, e_isSlot)]) kp_iKid (l.length + 1) F_iKid (ea_iKid (l, f)) = some (erT 2 (eI (f_iKid (l, f)))) := by
  unfold ea_iKid f_iKid kids
  dsimp only
  rw [pre_iKid, rowsT0 rowI]
  have := loop_iKid l f h.1 h.2.2 (l.length + 1) 0 l.length f [] h.2.1 (by simp)
  rw [List.nil_append] at this
  exact this
theorem s_iKid : EntOk prog i_iKid e_iKid := ent_ok ea_iKid_inj fun x hx =>
  body_sound (φ := (tabS [(i_isSlot, e_isSlot)])) (tabS_cons s_isSlot tabS_nil) mixed (kp := kp_iKid) (n := x.1.length + 1) func96 (c := bodyOf F_iKid) (by kernel_rfl) (body_iKid x.1 x.2 hx) (name_ok (by kernel_rfl))
theorem loop_sKid (l : List Nd) (f0 : Int) (hl : l.length ≤ LM) (hx : nxI l) (n mm : Nat) : ∀ (r : Nat) (f : Int) (out : List Int), inI f → out.length + r = l.length →
    loopAt prog (tabS [(i_l9Place, e_l9Place)]) kp_sKid F_sKid [1, 1, 0, 0] n (r + 1 + mm) (st_sKid_1 l f0 f out.length (atL rowI out)) (contAt prog (tabS [(i_l9Place, e_l9Place)]) kp_sKid F_sKid ts_sKid [1, 1, 0, 0] [] n) = some (erT 2 (eI (out ++ kidN l r f))) := by
  have hlm := lm
  have fin : ∀ (f : Int) (out : List Int), contAt prog (tabS [(i_l9Place, e_l9Place)]) kp_sKid F_sKid ts_sKid [1, 1, 0, 0] [] n (.exit 0) (ex_sKid_1_1 l f0 f out.length (atL rowI out)) = some (erT 2 (eI (out ++ []))) := fun f out => by
    rw [post_sKid_1_1, List.append_nil]
    simp only [ble_d, Nat.le_refl, decide_true, Bool.and_true, gd_true]
    rfl
  intro r
  induction r with
  | zero =>
    intro f out hk hr
    rw [show 0 + 1 + mm = mm + 1 from by omega, loopAt_succ, round_sKid_1]
    simp only [lt_d, decide_eq_false (show ¬ out.length < l.length by omega), cond_false, Bool.cond_self]
    exact fin f out
  | succ r ih =>
    intro f out hk hr
    rw [show r + 1 + 1 + mm = (r + 1 + mm) + 1 from by omega, loopAt_succ, round_sKid_1]
    have hk' := hk
    unfold inI at hk'
    have w1 : IntKind.i64.wrap ((l.length : Int) - 1) = (l.length : Int) - 1 := by rw [IntKind.wrap_i64]; omega
    by_cases h : 1 ≤ f ∧ f ≤ (l.length : Int)
    · have w2 : IntKind.i64.wrap (f - 1) = f - 1 := by rw [IntKind.wrap_i64]; omega
      have hb : (f - 1).toNat < l.length := by omega
      have hx1 := nd_getk hb
      have h0 : 0 ≤ f - 1 := by omega
      have h1 : f - 1 ≤ (l.length : Int) - 1 := by omega
      have h2 := h.1
      have h3 := h.2
      have hs : (out.length + 1) * 8 ≤ 70368744177664 := by omega
      have hs2 : out.length + 1 ≤ 70368744177664 := by omega
      have ho : out.length < l.length := by omega
      have e3 : kidN l (r + 1) f = (f - 1) :: kidN l r (nd l (f - 1)).next := by
        simp only [kidN, decide_eq_true h2, decide_eq_true h3, Bool.and_self, cond_true]
      simp only [lt_d, ge0_d, Int.toNat_natCast, blt_d, ble_self, beq_self, decide_true, cond_true, Bool.and_self, Bool.and_true, Bool.true_and, gd_true, Nat.zero_add, List.getD_cons_zero, List.getD_cons_succ, isI_int, toI_int, isB_bool, toB_bool, eL_T, arr_ln, arr_fn, arr_wd, arr_is, arr_get, w1, w2, ble_d, h0, h1, h2, h3, hb, ho, hs, hs2, Nat.le_refl, atL_of hx1, Nd.cs, app1]
      rw [e3]
      have := ih (nd l (f - 1)).next (out ++ [f - 1]) (hx _ (nd_in hb)) (by rw [List.length_append, List.length_singleton]; omega)
      rw [List.append_assoc, List.length_append, List.length_singleton] at this
      exact this
    · rw [kidN_out h]
      by_cases h0 : 1 ≤ f
      · have h1 : ¬ f ≤ (l.length : Int) := fun e => h ⟨h0, e⟩
        simp only [h0, h1, decide_true, decide_false, cond_true, cond_false]
        exact fin f out
      · simp only [h0, decide_false, cond_false]
        exact fin f out
theorem body_sKid (l : List Nd) (f : Int) (h : ok_sKid (l, f)) : body prog (tabS [(i_l9Place, e_l9Place)]) kp_sKid (l.length + 1) F_sKid (ea_sKid (l, f)) = some (erT 2 (eI (f_sKid (l, f)))) := by
  unfold ea_sKid f_sKid kids
  dsimp only
  rw [pre_sKid, rowsT0 rowI]
  have := loop_sKid l f h.1 h.2.2 (l.length + 1) 0 l.length f [] h.2.1 (by simp)
  rw [List.nil_append] at this
  exact this
theorem s_sKid : EntOk prog i_sKid e_sKid := ent_ok ea_sKid_inj fun x hx =>
  body_sound (φ := (tabS [(i_l9Place, e_l9Place)])) (tabS_cons s_l9Place tabS_nil) mixed (kp := kp_sKid) (n := x.1.length + 1) func92 (c := bodyOf F_sKid) (by kernel_rfl) (body_sKid x.1 x.2 hx) (name_ok (by kernel_rfl))
end Go.Mach.F
namespace Go.Mach.F
open Go Go.Mach Go.Proofs.Try
--=set_option maxRecDepth 100000
theorem Nd.cs_ext {x y : Nd} (h : x.cs = y.cs) : x = y := Nd.cs_inj x y fun k => by rw [h]
theorem Ws.cs_ext {x y : Ws} (h : x.cs = y.cs) : x = y := Ws.cs_inj x y fun k => by rw [h]
def i_iSl : Nat := 160
noncomputable abbrev F_iSl : Func := f160
def kp_iSl : List (Nat × List Nat) := [(0, [4, 8, 9]), (1, [16])]
noncomputable def e_iSl : Ent := inl [] prog (tabS [(i_iCeilDiv, e_iCeilDiv)]) kp_iSl 0 F_iSl
theorem s_iSl : EntOk prog i_iSl e_iSl := inl_ok (tabS_cons s_iCeilDiv tabS_nil) mixed (c := bodyOf F_iSl) func160 (by kernel_rfl) (name_ok (by kernel_rfl))
def i_sSl : Nat := 157
noncomputable abbrev F_sSl : Func := f157
def kp_sSl : List (Nat × List Nat) := [(0, [4, 8, 9]), (1, [16])]
noncomputable def e_sSl : Ent := inl [] prog (tabS [(i_sCeilDiv, e_sCeilDiv)]) kp_sSl 0 F_sSl
theorem s_sSl : EntOk prog i_sSl e_sSl := inl_ok (tabS_cons s_sCeilDiv tabS_nil) mixed (c := bodyOf F_sSl) func157 (by kernel_rfl) (name_ok (by kernel_rfl))
/-- What is left of a region. -/
def wst (y : Nd) (k : Int) : Ws := ⟨k, y.first, y.tags, y.chunks, 0⟩
def stpN (c : Cf) (x : Ws) : Nat → Int
  | 0 => IntKind.i64.wrap ((x.tags.length : Int) + 1)
  | i + 1 => IntKind.i64.wrap (stpN c x i + (bif decide (i = 0) then cdv (IntKind.i64.wrap (c.size - x.done)) c.slice else cdv c.size c.slice))
/-- The steps of what is left, without children. -/
def stp (c : Cf) (x : Ws) : Int := stpN c x x.chunks.length
def ok_iWst (x : Nd × Int) : Prop := x.1.tags.length ≤ LM ∧ x.1.chunks.length ≤ LM
def ea_iWst (x : Nd × Int) : List Arg := [aR x.1.cs, aI x.2]
def f_iWst (x : Nd × Int) : Ws := wst x.1 x.2
noncomputable def e_iWst : Ent := ent [] ok_iWst ea_iWst (fun r => erR 2 r.cs) f_iWst
theorem ea_iWst_inj (x y : Nd × Int) (h : ea_iWst x = ea_iWst y) : x = y := by
  obtain ⟨y1, k1⟩ := x
  obtain ⟨y2, k2⟩ := y
  simp only [ea_iWst, List.cons.injEq, and_true, true_and] at h
  obtain ⟨e0, e1⟩ := h
  obtain rfl := Nd.cs_ext (aR_inj e0)
  obtain rfl := aI_inj e1
  rfl
theorem dm_iWst {y : Nd} {k : Int} (h : ok_iWst (y, k)) : dom ok_iWst ea_iWst [(0, true, [C.tr false (T.int IntKind.i64 y.st), C.tr false (T.int IntKind.i64 y.gen), C.tr false (T.int IntKind.i64 y.ep), C.tr false (T.int IntKind.i64 y.up), C.tr false (T.int IntKind.i64 y.upEp), C.tr false (T.int IntKind.i64 y.first), C.tr false (T.int IntKind.i64 y.next), C.tr false (T.int IntKind.i64 y.prev), C.tr false (T.arr 1 y.chunks.length (atL rowI y.chunks)), C.tr false (T.int IntKind.i64 y.cur), C.tr false (T.int IntKind.i64 y.bump), C.tr false (T.arr 3 y.things.length (atL Th.cs y.things)), C.tr false (T.arr 1 y.tags.length (atL rowI y.tags))]), (0, false, [C.tr false (T.int IntKind.i64 k)])] = true := dom_ea (ea := ea_iWst) (x := (y, k)) h
theorem iv_iWst {y : Nd} {k : Int} (h : ok_iWst (y, k)) : inv ok_iWst ea_iWst [(0, true, [C.tr false (T.int IntKind.i64 y.st), C.tr false (T.int IntKind.i64 y.gen), C.tr false (T.int IntKind.i64 y.ep), C.tr false (T.int IntKind.i64 y.up), C.tr false (T.int IntKind.i64 y.upEp), C.tr false (T.int IntKind.i64 y.first), C.tr false (T.int IntKind.i64 y.next), C.tr false (T.int IntKind.i64 y.prev), C.tr false (T.arr 1 y.chunks.length (atL rowI y.chunks)), C.tr false (T.int IntKind.i64 y.cur), C.tr false (T.int IntKind.i64 y.bump), C.tr false (T.arr 3 y.things.length (atL Th.cs y.things)), C.tr false (T.arr 1 y.tags.length (atL rowI y.tags))]), (0, false, [C.tr false (T.int IntKind.i64 k)])] = (y, k) := inv_ea ea_iWst_inj (x := (y, k)) h
theorem d_iWst (y : Nd) (k : Int) : f_iWst (y, k) = wst y k := rfl
def i_iWst : Nat := 172
noncomputable abbrev F_iWst : Func := f172
def kp_iWst : List (Nat × List Nat) := [(0, [4, 8, 9, 16, 17, 20, 28, 40, 52, 56]), (1, [16, 17, 20, 28, 40, 52, 56])]
theorem pre_iWst (y : Nd) (k : Int) (n : Nat) : body prog (tabS [(i_clI, e_clI)]) kp_iWst n F_iWst [aR y.cs, aI k] = (
 entK ok_clI ea_clI (f_clI) [(0, false, [C.tr false (eL 1 rowI y.13)])] fun (r1 : List Int) =>
 entK ok_clI ea_clI (f_clI) [(0, false, [C.tr false (eL 1 rowI y.9)])] fun (r2 : List Int) =>
 gd (r1.length.ble r1.length && true) <|
 gd (r2.length.ble r2.length && true) <|
 gd (r1.length.ble r1.length && true) <|
 gd (r2.length.ble r2.length && true) <|
 gd (r1.length.ble r1.length && true) <|
 gd (r2.length.ble r2.length && true) <|
 some ([(true, [.tr true (T.int IntKind.i64 k), .tr true (T.int IntKind.i64 y.6), .tr true (.arr (1) (r1.length) (atL rowI r1)), .tr true (.arr (1) (r2.length) (atL rowI r2)), .tr true (T.int IntKind.i64 0)])], [(false, []), (false, [])])) := by kernel_rfl
def ok_sWst (x : Nd × Int) : Prop := x.1.tags.length ≤ LM ∧ x.1.chunks.length ≤ LM
def ea_sWst (x : Nd × Int) : List Arg := [aR x.1.cs, aI x.2]
def f_sWst (x : Nd × Int) : Ws := wst x.1 x.2
noncomputable def e_sWst : Ent := ent [] ok_sWst ea_sWst (fun r => erR 2 r.cs) f_sWst
theorem ea_sWst_inj (x y : Nd × Int) (h : ea_sWst x = ea_sWst y) : x = y := by
  obtain ⟨y1, k1⟩ := x
  obtain ⟨y2, k2⟩ := y
  simp only [ea_sWst, List.cons.injEq, and_true, true_and] at h
  obtain ⟨e0, e1⟩ := h
  obtain rfl := Nd.cs_ext (aR_inj e0)
  obtain rfl := aI_inj e1
  rfl
theorem dm_sWst {y : Nd} {k : Int} (h : ok_sWst (y, k)) : dom ok_sWst ea_sWst [(0, true, [C.tr false (T.int IntKind.i64 y.st), C.tr false (T.int IntKind.i64 y.gen), C.tr false (T.int IntKind.i64 y.ep), C.tr false (T.int IntKind.i64 y.up), C.tr false (T.int IntKind.i64 y.upEp), C.tr false (T.int IntKind.i64 y.first), C.tr false (T.int IntKind.i64 y.next), C.tr false (T.int IntKind.i64 y.prev), C.tr false (T.arr 1 y.chunks.length (atL rowI y.chunks)), C.tr false (T.int IntKind.i64 y.cur), C.tr false (T.int IntKind.i64 y.bump), C.tr false (T.arr 3 y.things.length (atL Th.cs y.things)), C.tr false (T.arr 1 y.tags.length (atL rowI y.tags))]), (0, false, [C.tr false (T.int IntKind.i64 k)])] = true := dom_ea (ea := ea_sWst) (x := (y, k)) h
theorem iv_sWst {y : Nd} {k : Int} (h : ok_sWst (y, k)) : inv ok_sWst ea_sWst [(0, true, [C.tr false (T.int IntKind.i64 y.st), C.tr false (T.int IntKind.i64 y.gen), C.tr false (T.int IntKind.i64 y.ep), C.tr false (T.int IntKind.i64 y.up), C.tr false (T.int IntKind.i64 y.upEp), C.tr false (T.int IntKind.i64 y.first), C.tr false (T.int IntKind.i64 y.next), C.tr false (T.int IntKind.i64 y.prev), C.tr false (T.arr 1 y.chunks.length (atL rowI y.chunks)), C.tr false (T.int IntKind.i64 y.cur), C.tr false (T.int IntKind.i64 y.bump), C.tr false (T.arr 3 y.things.length (atL Th.cs y.things)), C.tr false (T.arr 1 y.tags.length (atL rowI y.tags))]), (0, false, [C.tr false (T.int IntKind.i64 k)])] = (y, k) := inv_ea ea_sWst_inj (x := (y, k)) h
theorem d_sWst (y : Nd) (k : Int) : f_sWst (y, k) = wst y k := rfl
def i_sWst : Nat := 171
noncomputable abbrev F_sWst : Func := f171
def kp_sWst : List (Nat × List Nat) := [(0, [4, 8, 9, 16, 17, 20, 28, 32, 36, 40, 44, 48, 52, 56, 60, 64]), (1, [8, 9, 16, 17, 20, 28, 32, 36, 40, 44, 48, 52, 56, 60, 64])]
theorem pre_sWst (y : Nd) (k : Int) (n : Nat) : body prog (tabS []) kp_sWst n F_sWst [aR y.cs, aI k] = (
 gd (((0 + y.13.length) * 8).ble 70368744177664 && (0 + y.13.length).ble 70368744177664) <|
 gd (((0 + y.9.length) * 8).ble 70368744177664 && (0 + y.9.length).ble 70368744177664) <|
 gd ((0 + y.13.length).ble (0 + y.13.length) && true) <|
 gd ((0 + y.9.length).ble (0 + y.9.length) && true) <|
 gd ((0 + y.13.length).ble (0 + y.13.length) && true) <|
 gd ((0 + y.9.length).ble (0 + y.9.length) && true) <|
 gd ((0 + y.13.length).ble (0 + y.13.length) && true) <|
 gd ((0 + y.9.length).ble (0 + y.9.length) && true) <|
 some ([(true, [.tr true (T.int IntKind.i64 k), .tr true (T.int IntKind.i64 y.6), .tr true (.arr (1) (0 + y.13.length) (appF 0 (rowsT []) (plainF (atL rowI y.13)))), .tr true (.arr (1) (0 + y.9.length) (appF 0 (rowsT []) (plainF (atL rowI y.9)))), .tr true (T.int IntKind.i64 0)])], [(false, []), (false, [])])) := by kernel_rfl
def ok_iStp (x : Cf × Ws) : Prop := x.2.tags.length ≤ LM ∧ x.2.chunks.length ≤ LM
def ea_iStp (x : Cf × Ws) : List Arg := [aR x.1.cs, aR x.2.cs]
def f_iStp (x : Cf × Ws) : Int := stp x.1 x.2
noncomputable def e_iStp : Ent := ent [] ok_iStp ea_iStp (erI 2) f_iStp
theorem ea_iStp_inj (x y : Cf × Ws) (h : ea_iStp x = ea_iStp y) : x = y := by
  obtain ⟨c1, x1⟩ := x
  obtain ⟨c2, x2⟩ := y
  simp only [ea_iStp, List.cons.injEq, and_true, true_and] at h
  obtain ⟨e0, e1⟩ := h
  obtain rfl := Cf.cs_ext (aR_inj e0)
  obtain rfl := Ws.cs_ext (aR_inj e1)
  rfl
theorem dm_iStp {c : Cf} {x : Ws} (h : ok_iStp (c, x)) : dom ok_iStp ea_iStp [(0, true, [C.tr false (T.int IntKind.i64 c.chunks), C.tr false (T.int IntKind.i64 c.size), C.tr false (T.int IntKind.i64 c.slots), C.tr false (T.int IntKind.i64 c.tax), C.tr false (T.int IntKind.i64 c.slice), C.tr false (T.int IntKind.i64 c.gens)]), (0, true, [C.tr false (T.int IntKind.i64 x.slot), C.tr false (T.int IntKind.i64 x.first), C.tr false (T.arr 1 x.tags.length (atL rowI x.tags)), C.tr false (T.arr 1 x.chunks.length (atL rowI x.chunks)), C.tr false (T.int IntKind.i64 x.done)])] = true := dom_ea (ea := ea_iStp) (x := (c, x)) h
theorem iv_iStp {c : Cf} {x : Ws} (h : ok_iStp (c, x)) : inv ok_iStp ea_iStp [(0, true, [C.tr false (T.int IntKind.i64 c.chunks), C.tr false (T.int IntKind.i64 c.size), C.tr false (T.int IntKind.i64 c.slots), C.tr false (T.int IntKind.i64 c.tax), C.tr false (T.int IntKind.i64 c.slice), C.tr false (T.int IntKind.i64 c.gens)]), (0, true, [C.tr false (T.int IntKind.i64 x.slot), C.tr false (T.int IntKind.i64 x.first), C.tr false (T.arr 1 x.tags.length (atL rowI x.tags)), C.tr false (T.arr 1 x.chunks.length (atL rowI x.chunks)), C.tr false (T.int IntKind.i64 x.done)])] = (c, x) := inv_ea ea_iStp_inj (x := (c, x)) h
theorem d_iStp (c : Cf) (x : Ws) : f_iStp (c, x) = stp c x := rfl
def i_iStp : Nat := 130
noncomputable abbrev F_iStp : Func := f130
def kp_iStp : List (Nat × List Nat) := [(0, [8, 9, 12, 13]), (1, [8, 9, 12, 13, 20]), (2, [8, 9, 12, 13, 20, 52, 56]), (3, [8, 9, 12, 13, 20, 52, 56, 60]), (4, [8, 9, 12, 13, 20, 24, 52, 56]), (5, [8, 9, 12, 13, 20, 52, 56, 72]), (6, [8, 9, 12, 13, 20, 52, 56]), (7, [8, 9, 12, 13, 20, 52, 56]), (8, [8, 9, 12, 13, 20, 52, 56]), (9, [16])]
def ts_iStp : List Nat := [0, 0]
def st_iStp_1 (c : Cf) (x : Ws) (x20 : Int) (x56 : Int) : St := [(8, ⟨z0, [(false, [(C.pt (Pt.ptr 9 0 [] 6 0 0))])]⟩), (9, ⟨z0, [(true, [.tr true (T.int IntKind.i64 c.1), .tr true (T.int IntKind.i64 c.2), .tr true (T.int IntKind.i64 c.3), .tr true (T.int IntKind.i64 c.4), .tr true (T.int IntKind.i64 c.5), .tr true (T.int IntKind.i64 c.6)])]⟩), (12, ⟨z0, [(false, [(C.pt (Pt.ptr 13 0 [] 5 0 0))])]⟩), (13, ⟨z0, [(true, [.tr true (T.int IntKind.i64 x.1), .tr true (T.int IntKind.i64 x.2), .tr false (eL 1 rowI x.3), .tr false (eL 1 rowI x.4), .tr true (T.int IntKind.i64 x.5)])]⟩), (20, ⟨z0, [(false, [.tr true (T.int IntKind.i64 x20)])]⟩), (52, ⟨z0, [(false, [.tr true (T.int IntKind.i64 (↑x.4.length : Int))])]⟩), (56, ⟨z0, [(false, [.tr true (T.int IntKind.i64 x56)])]⟩)]
def ex_iStp_1_1 (c : Cf) (x : Ws) (x20 : Int) (x56 : Int) : St := [(8, ⟨z0, [(false, [(C.pt (Pt.ptr 9 0 [] 6 0 0))])]⟩), (9, ⟨z0, [(true, [.tr true (T.int IntKind.i64 c.1), .tr true (T.int IntKind.i64 c.2), .tr true (T.int IntKind.i64 c.3), .tr true (T.int IntKind.i64 c.4), .tr true (T.int IntKind.i64 c.5), .tr true (T.int IntKind.i64 c.6)])]⟩), (12, ⟨z0, [(false, [(C.pt (Pt.ptr 13 0 [] 5 0 0))])]⟩), (13, ⟨z0, [(true, [.tr true (T.int IntKind.i64 x.1), .tr true (T.int IntKind.i64 x.2), .tr false (eL 1 rowI x.3), .tr false (eL 1 rowI x.4), .tr true (T.int IntKind.i64 x.5)])]⟩), (20, ⟨z0, [(false, [.tr true (T.int IntKind.i64 x20)])]⟩), (52, ⟨z0, [(false, [.tr true (T.int IntKind.i64 (↑x.4.length : Int))])]⟩), (56, ⟨z0, [(false, [.tr true (T.int IntKind.i64 x56)])]⟩), (60, ⟨z0, []⟩)]
theorem round_iStp_1 (c : Cf) (x : Ws) (x20 : Int) (x56 : Int) (n : Nat) (K : Ex → St → Res) : roundAt prog (tabS [(i_iSl, e_iSl)]) kp_iStp F_iStp [1, 1, 0, 1, 0] n (st_iStp_1 c x x20 x56) K = (
 bif decide (x56 < (↑x.4.length : Int)) then
  bif x56 == 0 then
   entK ok_iCeilDiv ea_iCeilDiv (f_iCeilDiv) [(0, false, [C.tr false (T.int IntKind.i64 (IntKind.i64.wrap (c.2 - x.5)))]),
  (0, false, [C.tr false (T.int IntKind.i64 c.5)])] fun (r1 : Int) =>
   K .normal (st_iStp_1 c x (IntKind.i64.wrap (x20 + r1)) (IntKind.i64.wrap (x56 + 1)))
  else
  entK ok_iCeilDiv ea_iCeilDiv (f_iCeilDiv) [(0, false, [C.tr false (T.int IntKind.i64 c.2)]), (0, false, [C.tr false (T.int IntKind.i64 c.5)])] fun (r2 : Int) =>
  K .normal (st_iStp_1 c x (IntKind.i64.wrap (x20 + r2)) (IntKind.i64.wrap (x56 + 1)))
 else
 K (.exit 0) (ex_iStp_1_1 c x x20 x56)) := by kernel_rfl
theorem post_iStp_1_1 (c : Cf) (x : Ws) (x20 : Int) (x56 : Int) (n : Nat) : contAt prog (tabS [(i_iSl, e_iSl)]) kp_iStp F_iStp ts_iStp [1, 1, 0, 1, 0] [] n (.exit 0) (ex_iStp_1_1 c x x20 x56) = (
 some ([(false, [.tr true (T.int IntKind.i64 x20)])], [(false, []), (false, [])])) := by kernel_rfl
theorem pre_iStp (c : Cf) (x : Ws) (n : Nat) : body prog (tabS [(i_iSl, e_iSl)]) kp_iStp n F_iStp [aR c.cs, aR x.cs] = (
 loopAt prog (tabS [(i_iSl, e_iSl)]) kp_iStp F_iStp [1, 1, 0, 1, 0] n n (st_iStp_1 c x (IntKind.i64.wrap ((↑x.3.length : Int) + 1)) (0)) (contAt prog (tabS [(i_iSl, e_iSl)]) kp_iStp F_iStp ts_iStp [1, 1, 0, 1, 0] [] n)) := by kernel_rfl
def ok_sStp (x : Cf × Ws) : Prop := x.2.tags.length ≤ LM ∧ x.2.chunks.length ≤ LM
def ea_sStp (x : Cf × Ws) : List Arg := [aR x.1.cs, aR x.2.cs]
def f_sStp (x : Cf × Ws) : Int := stp x.1 x.2
noncomputable def e_sStp : Ent := ent [] ok_sStp ea_sStp (erI 2) f_sStp
theorem ea_sStp_inj (x y : Cf × Ws) (h : ea_sStp x = ea_sStp y) : x = y := by
  obtain ⟨c1, x1⟩ := x
  obtain ⟨c2, x2⟩ := y
  simp only [ea_sStp, List.cons.injEq, and_true, true_and] at h
  obtain ⟨e0, e1⟩ := h
  obtain rfl := Cf.cs_ext (aR_inj e0)
  obtain rfl := Ws.cs_ext (aR_inj e1)
  rfl
theorem dm_sStp {c : Cf} {x : Ws} (h : ok_sStp (c, x)) : dom ok_sStp ea_sStp [(0, true, [C.tr false (T.int IntKind.i64 c.chunks), C.tr false (T.int IntKind.i64 c.size), C.tr false (T.int IntKind.i64 c.slots), C.tr false (T.int IntKind.i64 c.tax), C.tr false (T.int IntKind.i64 c.slice), C.tr false (T.int IntKind.i64 c.gens)]), (0, true, [C.tr false (T.int IntKind.i64 x.slot), C.tr false (T.int IntKind.i64 x.first), C.tr false (T.arr 1 x.tags.length (atL rowI x.tags)), C.tr false (T.arr 1 x.chunks.length (atL rowI x.chunks)), C.tr false (T.int IntKind.i64 x.done)])] = true := dom_ea (ea := ea_sStp) (x := (c, x)) h
theorem iv_sStp {c : Cf} {x : Ws} (h : ok_sStp (c, x)) : inv ok_sStp ea_sStp [(0, true, [C.tr false (T.int IntKind.i64 c.chunks), C.tr false (T.int IntKind.i64 c.size), C.tr false (T.int IntKind.i64 c.slots), C.tr false (T.int IntKind.i64 c.tax), C.tr false (T.int IntKind.i64 c.slice), C.tr false (T.int IntKind.i64 c.gens)]), (0, true, [C.tr false (T.int IntKind.i64 x.slot), C.tr false (T.int IntKind.i64 x.first), C.tr false (T.arr 1 x.tags.length (atL rowI x.tags)), C.tr false (T.arr 1 x.chunks.length (atL rowI x.chunks)), C.tr false (T.int IntKind.i64 x.done)])] = (c, x) := inv_ea ea_sStp_inj (x := (c, x)) h
theorem d_sStp (c : Cf) (x : Ws) : f_sStp (c, x) = stp c x := rfl
def i_sStp : Nat := 127
noncomputable abbrev F_sStp : Func := f127
def kp_sStp : List (Nat × List Nat) := [(0, [8, 9, 12, 13]), (1, [8, 9, 12, 13, 20]), (2, [8, 9, 12, 13, 20, 24]), (3, [8, 9, 12, 13, 20, 24, 60]), (4, [8, 9, 12, 13, 20, 24]), (5, [8, 9, 12, 13, 20, 24, 76]), (6, [8, 9, 12, 13, 20, 24]), (7, [8, 9, 12, 13, 20, 24]), (8, [16])]
def ts_sStp : List Nat := [0, 0]
def st_sStp_1 (c : Cf) (x : Ws) (x20 : Int) (x24 : Int) : St := [(8, ⟨z0, [(false, [(C.pt (Pt.ptr 9 0 [] 6 0 0))])]⟩), (9, ⟨z0, [(true, [.tr true (T.int IntKind.i64 c.1), .tr true (T.int IntKind.i64 c.2), .tr true (T.int IntKind.i64 c.3), .tr true (T.int IntKind.i64 c.4), .tr true (T.int IntKind.i64 c.5), .tr true (T.int IntKind.i64 c.6)])]⟩), (12, ⟨z0, [(false, [(C.pt (Pt.ptr 13 0 [] 5 0 0))])]⟩), (13, ⟨z0, [(true, [.tr true (T.int IntKind.i64 x.1), .tr true (T.int IntKind.i64 x.2), .tr false (eL 1 rowI x.3), .tr false (eL 1 rowI x.4), .tr true (T.int IntKind.i64 x.5)])]⟩), (20, ⟨z0, [(false, [.tr true (T.int IntKind.i64 x20)])]⟩), (24, ⟨z0, [(false, [.tr true (T.int IntKind.i64 x24)])]⟩)]
def ex_sStp_1_1 (c : Cf) (x : Ws) (x20 : Int) (x24 : Int) : St := [(8, ⟨z0, [(false, [(C.pt (Pt.ptr 9 0 [] 6 0 0))])]⟩), (9, ⟨z0, [(true, [.tr true (T.int IntKind.i64 c.1), .tr true (T.int IntKind.i64 c.2), .tr true (T.int IntKind.i64 c.3), .tr true (T.int IntKind.i64 c.4), .tr true (T.int IntKind.i64 c.5), .tr true (T.int IntKind.i64 c.6)])]⟩), (12, ⟨z0, [(false, [(C.pt (Pt.ptr 13 0 [] 5 0 0))])]⟩), (13, ⟨z0, [(true, [.tr true (T.int IntKind.i64 x.1), .tr true (T.int IntKind.i64 x.2), .tr false (eL 1 rowI x.3), .tr false (eL 1 rowI x.4), .tr true (T.int IntKind.i64 x.5)])]⟩), (20, ⟨z0, [(false, [.tr true (T.int IntKind.i64 x20)])]⟩), (24, ⟨z0, [(false, [.tr true (T.int IntKind.i64 x24)])]⟩), (60, ⟨z0, []⟩)]
theorem round_sStp_1 (c : Cf) (x : Ws) (x20 : Int) (x24 : Int) (n : Nat) (K : Ex → St → Res) : roundAt prog (tabS [(i_sSl, e_sSl)]) kp_sStp F_sStp [1, 1, 0, 1, 0] n (st_sStp_1 c x x20 x24) K = (
 bif decide (x24 < (↑x.4.length : Int)) then
  bif x24 == 0 then
   entK ok_sCeilDiv ea_sCeilDiv (f_sCeilDiv) [(0, false, [C.tr false (T.int IntKind.i64 (IntKind.i64.wrap (c.2 - x.5)))]),
  (0, false, [C.tr false (T.int IntKind.i64 c.5)])] fun (r1 : Int) =>
   K .normal (st_sStp_1 c x (IntKind.i64.wrap (x20 + r1)) (IntKind.i64.wrap (x24 + 1)))
  else
  entK ok_sCeilDiv ea_sCeilDiv (f_sCeilDiv) [(0, false, [C.tr false (T.int IntKind.i64 c.2)]), (0, false, [C.tr false (T.int IntKind.i64 c.5)])] fun (r2 : Int) =>
  K .normal (st_sStp_1 c x (IntKind.i64.wrap (x20 + r2)) (IntKind.i64.wrap (x24 + 1)))
 else
 K (.exit 0) (ex_sStp_1_1 c x x20 x24)) := by kernel_rfl
theorem post_sStp_1_1 (c : Cf) (x : Ws) (x20 : Int) (x24 : Int) (n : Nat) : contAt prog (tabS [(i_sSl, e_sSl)]) kp_sStp F_sStp ts_sStp [1, 1, 0, 1, 0] [] n (.exit 0) (ex_sStp_1_1 c x x20 x24) = (
 some ([(false, [.tr true (T.int IntKind.i64 x20)])], [(false, []), (false, [])])) := by kernel_rfl
theorem pre_sStp (c : Cf) (x : Ws) (n : Nat) : body prog (tabS [(i_sSl, e_sSl)]) kp_sStp n F_sStp [aR c.cs, aR x.cs] = (
 loopAt prog (tabS [(i_sSl, e_sSl)]) kp_sStp F_sStp [1, 1, 0, 1, 0] n n (st_sStp_1 c x (IntKind.i64.wrap ((↑x.3.length : Int) + 1)) (0)) (contAt prog (tabS [(i_sSl, e_sSl)]) kp_sStp F_sStp ts_sStp [1, 1, 0, 1, 0] [] n)) := by kernel_rfl
end Go.Mach.F
namespace Go.Mach.F
open Go Go.Mach Go.Proofs.Try
theorem body_iWst (y : Nd) (k : Int) (n : Nat) (h : ok_iWst (y, k)) : body prog (tabS [(i_clI, e_clI)]) kp_iWst n F_iWst (ea_iWst (y, k)) = some ((fun r => erR 2 r.cs) (f_iWst (y, k))) := by
  have hlm := lm
  unfold ea_iWst f_iWst
  try dsimp only
  rw [pre_iWst]
  have c0 : ok_clI y.tags := h.1
  have c1 : ok_clI y.chunks := h.2
  simp (disch := omega) only [lt_d, ge0_d, Int.toNat_natCast, blt_d, ble_self, beq_self, decide_true, cond_true, Bool.and_self, Bool.and_true, Bool.true_and, gd_true, Nat.zero_add, List.getD_cons_zero, List.getD_cons_succ, isI_int, toI_int, isB_bool, toB_bool, eL_T, arr_ln, arr_fn, arr_wd, arr_is, arr_get, eL_T, cut_all, rowI, wrapI, Nd.cs, entK_of (dm_clI c0) (iv_clI c0), d_clI, entK_of (dm_clI c1) (iv_clI c1)]
  rfl
theorem s_iWst : EntOk prog i_iWst e_iWst := ent_ok ea_iWst_inj fun x hx =>
  body_sound (φ := (tabS [(i_clI, e_clI)])) (tabS_cons s_clI tabS_nil) mixed (kp := kp_iWst) (n := 0) func172 (c := bodyOf F_iWst) (by kernel_rfl) (body_iWst x.1 x.2 (0) hx) (name_ok (by kernel_rfl))
theorem body_sWst (y : Nd) (k : Int) (n : Nat) (h : ok_sWst (y, k)) : body prog (tabS []) kp_sWst n F_sWst (ea_sWst (y, k)) = some ((fun r => erR 2 r.cs) (f_sWst (y, k))) := by
  have hlm := lm
  obtain ⟨h1, h2⟩ := h
  dsimp only at h1 h2
  unfold ea_sWst f_sWst wst
  dsimp only
  rw [pre_sWst]
  have s1 : y.tags.length * 8 ≤ 70368744177664 := by omega
  have s2 : y.chunks.length * 8 ≤ 70368744177664 := by omega
  have s3 : y.tags.length ≤ 70368744177664 := by omega
  have s4 : y.chunks.length ≤ 70368744177664 := by omega
  simp (implicitDefEqProofs := false) only [lt_d, ge0_d, Int.toNat_natCast, blt_d, ble_self, beq_self, decide_true, cond_true, Bool.and_self, Bool.and_true, Bool.true_and, gd_true, Nat.zero_add, List.getD_cons_zero, List.getD_cons_succ, isI_int, toI_int, isB_bool, toB_bool, eL_T, arr_ln, arr_fn, arr_wd, arr_is, arr_get, s1, s2, s3, s4, plain_I, app0, ble_d, Nat.le_refl]
  rfl
theorem s_sWst : EntOk prog i_sWst e_sWst := ent_ok ea_sWst_inj fun x hx =>
  body_sound (φ := (tabS [])) tabS_nil mixed (kp := kp_sWst) (n := 0) func171 (c := bodyOf F_sWst) (by kernel_rfl) (body_sWst x.1 x.2 (0) hx) (name_ok (by kernel_rfl))
theorem body_iStp (c : Cf) (x : Ws) (h : ok_iStp (c, x)) : body prog (tabS [(i_iSl, e_iSl)]) kp_iStp (x.chunks.length + 1) F_iStp (ea_iStp (c, x)) = some (erI 2 (f_iStp (c, x))) := by
  have hlm := lm
  obtain ⟨h1, h2⟩ := h
  dsimp only at h1 h2
  unfold ea_iStp f_iStp stp
  dsimp only
  rw [pre_iStp]
  have hst : st_iStp_1 c x (IntKind.i64.wrap ((x.tags.length : Int) + 1)) 0 = (fun i : Nat => st_iStp_1 c x (stpN c x i) (i : Nat)) 0 := rfl
  rw [hst, forLoop x.chunks.length (fun i : Nat => st_iStp_1 c x (stpN c x i) (i : Nat)) (ex_iStp_1_1 c x (stpN c x x.chunks.length) x.chunks.length) 0 (fun i K hi => ?_) (fun K => ?_) _ (Nat.le_refl _)]
  · rw [post_iStp_1_1]
    rfl
  · rw [round_iStp_1]
    have c0 : ok_iCeilDiv (IntKind.i64.wrap (c.size - x.done), c.slice) := trivial
    have c1 : ok_iCeilDiv (c.size, c.slice) := trivial
    have w1 : IntKind.i64.wrap ((i : Int) + 1) = ((i + 1 : Nat) : Int) := wrapS (by omega)
    simp (implicitDefEqProofs := false) only [lt_d, ge0_d, Int.toNat_natCast, blt_d, ble_self, beq_self, decide_true, cond_true, Bool.and_self, Bool.and_true, Bool.true_and, gd_true, Nat.zero_add, List.getD_cons_zero, List.getD_cons_succ, isI_int, toI_int, isB_bool, toB_bool, eL_T, arr_ln, arr_fn, arr_wd, arr_is, arr_get, hi, w1]
    by_cases h0 : i = 0
    · subst h0
      simp (implicitDefEqProofs := false) only [int_eq, Int.natCast_zero, decide_true, cond_true]
      rw [entK_of (dm_iCeilDiv c0) (iv_iCeilDiv c0)]
      rfl
    · have h3 : ¬ (i : Int) = 0 := by omega
      simp (implicitDefEqProofs := false) only [int_eq, h3, decide_false, cond_false]
      rw [entK_of (dm_iCeilDiv c1) (iv_iCeilDiv c1)]
      have e : stpN c x (i + 1) = IntKind.i64.wrap (stpN c x i + cdv c.size c.slice) := by
        simp only [stpN, h0, decide_false, cond_false]
      rw [e]
      rfl
  · rw [round_iStp_1]
    simp (implicitDefEqProofs := false) only [lt_d, Nat.lt_irrefl, decide_false, cond_false]
theorem s_iStp : EntOk prog i_iStp e_iStp := ent_ok ea_iStp_inj fun x hx =>
  body_sound (φ := (tabS [(i_iSl, e_iSl)])) (tabS_cons s_iSl tabS_nil) mixed (kp := kp_iStp) (n := x.2.chunks.length + 1) func130 (c := bodyOf F_iStp) (by kernel_rfl) (body_iStp x.1 x.2 hx) (name_ok (by kernel_rfl))
theorem body_sStp (c : Cf) (x : Ws) (h : ok_sStp (c, x)) : body prog (tabS [(i_sSl, e_sSl)]) kp_sStp (x.chunks.length + 1) F_sStp (ea_sStp (c, x)) = some (erI 2 (f_sStp (c, x))) := by
  have hlm := lm
  obtain ⟨h1, h2⟩ := h
  dsimp only at h1 h2
  unfold ea_sStp f_sStp stp
  dsimp only
  rw [pre_sStp]
  have hst : st_sStp_1 c x (IntKind.i64.wrap ((x.tags.length : Int) + 1)) 0 = (fun i : Nat => st_sStp_1 c x (stpN c x i) (i : Nat)) 0 := rfl
  rw [hst, forLoop x.chunks.length (fun i : Nat => st_sStp_1 c x (stpN c x i) (i : Nat)) (ex_sStp_1_1 c x (stpN c x x.chunks.length) x.chunks.length) 0 (fun i K hi => ?_) (fun K => ?_) _ (Nat.le_refl _)]
  · rw [post_sStp_1_1]
    rfl
  · rw [round_sStp_1]
    have c0 : ok_sCeilDiv (IntKind.i64.wrap (c.size - x.done), c.slice) := trivial
    have c1 : ok_sCeilDiv (c.size, c.slice) := trivial
    have w1 : IntKind.i64.wrap ((i : Int) + 1) = ((i + 1 : Nat) : Int) := wrapS (by omega)
    simp (implicitDefEqProofs := false) only [lt_d, ge0_d, Int.toNat_natCast, blt_d, ble_self, beq_self, decide_true, cond_true, Bool.and_self, Bool.and_true, Bool.true_and, gd_true, Nat.zero_add, List.getD_cons_zero, List.getD_cons_succ, isI_int, toI_int, isB_bool, toB_bool, eL_T, arr_ln, arr_fn, arr_wd, arr_is, arr_get, hi, w1]
    by_cases h0 : i = 0
    · subst h0
      simp (implicitDefEqProofs := false) only [int_eq, Int.natCast_zero, decide_true, cond_true]
      rw [entK_of (dm_sCeilDiv c0) (iv_sCeilDiv c0)]
      rfl
    · have h3 : ¬ (i : Int) = 0 := by omega
      simp (implicitDefEqProofs := false) only [int_eq, h3, decide_false, cond_false]
      rw [entK_of (dm_sCeilDiv c1) (iv_sCeilDiv c1)]
      have e : stpN c x (i + 1) = IntKind.i64.wrap (stpN c x i + cdv c.size c.slice) := by
        simp only [stpN, h0, decide_false, cond_false]
      rw [e]
      rfl
  · rw [round_sStp_1]
    simp (implicitDefEqProofs := false) only [lt_d, Nat.lt_irrefl, decide_false, cond_false]
theorem s_sStp : EntOk prog i_sStp e_sStp := ent_ok ea_sStp_inj fun x hx =>
  body_sound (φ := (tabS [(i_sSl, e_sSl)])) (tabS_cons s_sSl tabS_nil) mixed (kp := kp_sStp) (n := x.2.chunks.length + 1) func127 (c := bodyOf F_sStp) (by kernel_rfl) (body_sStp x.1 x.2 hx) (name_ok (by kernel_rfl))
end Go.Mach.F
namespace Go.Mach.F
open Go Go.Mach Go.Proofs.Try
--=set_option maxRecDepth 100000
theorem lT_inj {t t' : T} (h : lT t = lT t') : t = t' := by cases h; rfl
theorem vT_inj {t t' : T} (h : vT t = vT t') : t = t' := by cases h; rfl
end Go.Mach.F
namespace Go.Mach.F
open Go Go.Mach Go.Proofs.Try
--=set_option maxRecDepth 100000
def has (l : List Int) (k : Int) : Bool := decide (k ∈ l)
def idx (l : List Int) (k : Int) : Int := match (List.range l.length).find? (fun i => decide (k = ri l i)) with | some i => (i : Int) | none => -1
def ok_l7Has (x : List Int × Int) : Prop := x.1.length ≤ LM
def ea_l7Has (x : List Int × Int) : List Arg := [aT (eI x.1), aI x.2]
def f_l7Has (x : List Int × Int) : Bool := has x.1 x.2
noncomputable def e_l7Has : Ent := ent [] ok_l7Has ea_l7Has (erB 2) f_l7Has
theorem ea_l7Has_inj (x y : List Int × Int) (h : ea_l7Has x = ea_l7Has y) : x = y := by
  obtain ⟨l1, k1⟩ := x
  obtain ⟨l2, k2⟩ := y
  simp only [ea_l7Has, List.cons.injEq, and_true, true_and] at h
  obtain ⟨e0, e1⟩ := h
  obtain rfl := eI_inj (aT_inj e0)
  obtain rfl := aI_inj e1
  rfl
theorem dm_l7Has {l : List Int} {k : Int} (h : ok_l7Has (l, k)) : dom ok_l7Has ea_l7Has [(0, false, [C.tr false (T.arr 1 l.length (atL rowI l))]), (0, false, [C.tr false (T.int IntKind.i64 k)])] = true := dom_ea (ea := ea_l7Has) (x := (l, k)) h
theorem iv_l7Has {l : List Int} {k : Int} (h : ok_l7Has (l, k)) : inv ok_l7Has ea_l7Has [(0, false, [C.tr false (T.arr 1 l.length (atL rowI l))]), (0, false, [C.tr false (T.int IntKind.i64 k)])] = (l, k) := inv_ea ea_l7Has_inj (x := (l, k)) h
theorem d_l7Has (l : List Int) (k : Int) : f_l7Has (l, k) = has l k := rfl
def i_l7Has : Nat := 163
noncomputable abbrev F_l7Has : Func := f163
def kp_l7Has : List (Nat × List Nat) := [(0, [0, 4]), (1, [0, 4, 20]), (2, [0, 4, 20, 36]), (3, [0, 4, 20]), (4, [0, 4, 20, 68]), (5, [16]), (6, [16])]
def ts_l7Has : List Nat := [0, 0]
def st_l7Has_1 (l : List Int) (k : Int) (x20 : Int) : St := [(0, ⟨z0, [(false, [.tr false (.arr (1) (l.length) (atL rowI l))])]⟩), (4, ⟨z0, [(false, [.tr true (T.int IntKind.i64 k)])]⟩), (20, ⟨z0, [(false, [.tr true (T.int IntKind.i64 x20)])]⟩)]
def ex_l7Has_1_1 (l : List Int) (k : Int) (x20 : Int) : St := [(16, ⟨z0, [(false, [.tr true (T.bool true)])]⟩)]
def ex_l7Has_1_2 (l : List Int) (k : Int) (x20 : Int) : St := [(0, ⟨z0, [(false, [.tr false (.arr (1) (l.length) (atL rowI l))])]⟩), (4, ⟨z0, [(false, [.tr true (T.int IntKind.i64 k)])]⟩), (20, ⟨z0, [(false, [.tr true (T.int IntKind.i64 x20)])]⟩), (36, ⟨z0, []⟩)]
theorem round_l7Has_1 (l : List Int) (k : Int) (x20 : Int) (n : Nat) (K : Ex → St → Res) : roundAt prog (tabS []) kp_l7Has F_l7Has [1, 0, 1, 0] n (st_l7Has_1 l k x20) K = (
 bif decide (x20 < (↑l.length : Int)) then
  gd (decide (0 ≤ x20) && (x20.toNat.blt l.length && true)) <|
  gd (T.isI IntKind.i64 (atL rowI l x20.toNat 0)) <|
  bif (atL rowI l x20.toNat 0).toI == k then
   K .ret (ex_l7Has_1_1 l k x20)
  else
  K .normal (st_l7Has_1 l k (IntKind.i64.wrap (x20 + 1)))
 else
 K (.exit 0) (ex_l7Has_1_2 l k x20)) := by kernel_rfl
theorem post_l7Has_1_1 (l : List Int) (k : Int) (x20 : Int) (n : Nat) : contAt prog (tabS []) kp_l7Has F_l7Has ts_l7Has [1, 0, 1, 0] [] n .ret (ex_l7Has_1_1 l k x20) = (
 some ([(false, [.tr true (T.bool true)])], [(false, []), (false, [])])) := by kernel_rfl
theorem post_l7Has_1_2 (l : List Int) (k : Int) (x20 : Int) (n : Nat) : contAt prog (tabS []) kp_l7Has F_l7Has ts_l7Has [1, 0, 1, 0] [] n (.exit 0) (ex_l7Has_1_2 l k x20) = (
 some ([(false, [.tr true (T.bool false)])], [(false, []), (false, [])])) := by kernel_rfl
theorem pre_l7Has (l : List Int) (k : Int) (n : Nat) : body prog (tabS []) kp_l7Has n F_l7Has [aT (eI l), aI k] = (
 loopAt prog (tabS []) kp_l7Has F_l7Has [1, 0, 1, 0] n n (st_l7Has_1 l k (0)) (contAt prog (tabS []) kp_l7Has F_l7Has ts_l7Has [1, 0, 1, 0] [] n)) := by kernel_rfl
end Go.Mach.F
namespace Go.Mach.F
open Go Go.Mach Go.Proofs.Try
theorem mem_ri (l : List Int) (k : Int) : k ∈ l ↔ ∃ i, i < l.length ∧ ri l i = k := by
  constructor
  · intro h
    obtain ⟨i, hi, e⟩ := List.getElem_of_mem h
    refine ⟨i, hi, ?_⟩
    have := ri_get hi
    rw [List.getElem?_eq_getElem hi] at this
    rw [← Option.some.inj this, e]
  · rintro ⟨i, hi, e⟩
    rw [← e]
    exact List.mem_of_getElem? (ri_get hi)
theorem body_l7Has (l : List Int) (k : Int) (h : ok_l7Has (l, k)) : body prog (tabS []) kp_l7Has (l.length + 1) F_l7Has (ea_l7Has (l, k)) = some (erB 2 (f_l7Has (l, k))) := by
  have hlm := lm
  have hl : l.length ≤ LM := h
  unfold ea_l7Has f_l7Has
  dsimp only
  rw [pre_l7Has, show st_l7Has_1 l k 0 = (fun i : Nat => st_l7Has_1 l k (i : Nat)) 0 from rfl]
  refine (forAny l.length (fun i : Nat => st_l7Has_1 l k (i : Nat)) (ex_l7Has_1_2 l k l.length) 0 (fun i => decide (ri l i = k)) .ret (by simp) (fun i => ex_l7Has_1_1 l k i) (some (erB 2 true)) (some (erB 2 false)) (fun i K hi => ?_) (fun K => ?_) (fun i => ?_) ?_ _ (Nat.le_refl _)).trans ?_
  · rw [round_l7Has_1]
    simp (disch := omega) only [lt_d, ge0_d, Int.toNat_natCast, blt_d, ble_self, beq_self, decide_true, cond_true, Bool.and_self, Bool.and_true, Bool.true_and, gd_true, Nat.zero_add, List.getD_cons_zero, List.getD_cons_succ, isI_int, toI_int, isB_bool, toB_bool, eL_T, arr_ln, arr_fn, arr_wd, arr_is, arr_get, hi, atL_of (ri_get hi), rowI, wrapS, int_eq]
  · rw [round_l7Has_1]
    simp only [lt_d, Nat.lt_irrefl, decide_false, cond_false]
  · exact post_l7Has_1_1 l k i _
  · exact post_l7Has_1_2 l k l.length _
  · have : (List.range l.length).any (fun i => decide (ri l i = k)) = has l k := by
      unfold has
      rw [Bool.eq_iff_iff, List.any_eq_true, decide_eq_true_eq, mem_ri]
      simp
    rw [this]
    cases has l k <;> rfl
theorem s_l7Has : EntOk prog i_l7Has e_l7Has := ent_ok ea_l7Has_inj fun x hx =>
  body_sound (φ := (tabS [])) tabS_nil mixed (kp := kp_l7Has) (n := x.1.length + 1) func163 (c := bodyOf F_l7Has) (by kernel_rfl) (body_l7Has x.1 x.2 hx) (name_ok (by kernel_rfl))
end Go.Mach.F
namespace Go.Mach.F
open Go Go.Mach Go.Proofs.Try
--=set_option maxRecDepth 100000
def rowO (b : Bool) : List T := [T.bool b]
abbrev eO (l : List Bool) : T := eL 1 rowO l
/-- Links of children are within int64, lists of tags and chunks are not too long. -/
def dbI (l : List Nd) : Prop := ∀ x ∈ l, inI x.next ∧ inI x.first ∧ x.tags.length ≤ LM ∧ x.chunks.length ≤ LM
def bo (m : List Bool) (k : Int) : Bool := m.getD k.toNat false
/-- What a slot owes by itself. -/
def ow (w : Wd) (k : Int) : Int := IntKind.i64.wrap (1 + stp w.c (wst (nd w.l k) 0))
def dbtI : Nat → Wd → List Int → List Bool → Int × List Bool
  | 0, _, _, m => (0, m)
  | n + 1, w, a, m => a.foldl (fun b x => bif bo b.2 x then b else
      (IntKind.i64.wrap (b.1 + IntKind.i64.wrap (ow w x + (dbtI n w (kids w.l (nd w.l x).first) (b.2.set x.toNat true)).1)), (dbtI n w (kids w.l (nd w.l x).first) (b.2.set x.toNat true)).2)) (0, m)
def isK (l : List Nd) (k : Int) : Bool := decide (0 ≤ k) && decide (k < (l.length : Int))
def dbtS : Nat → Wd → Int → List Int → Int × List Int
  | 0, _, _, m => (0, m)
  | n + 1, w, x, m => bif isK w.l x && !has m x then (kids w.l (nd w.l x).first).foldl (fun b y => (IntKind.i64.wrap (b.1 + (dbtS n w y b.2).1), (dbtS n w y b.2).2)) (ow w x, m ++ [x]) else (0, m)
def ok_dbt (k : Nat) (x : Wd × List Int × List Bool) : Prop := (x.1.l.length < LM ∧ dbI x.1.l) ∧ x.2.1.length ≤ LM ∧ (∀ y ∈ x.2.1, isK x.1.l y = true) ∧ x.2.2.length = x.1.l.length ∧ x.2.2.count false < k
def ea_dbt (x : Wd × List Int × List Bool) : List Arg := [aR x.1.cs, aT (eI x.2.1), lT (eO x.2.2)]
def f_dbt (k : Nat) (x : Wd × List Int × List Bool) : Int × List Bool := dbtI k x.1 x.2.1 x.2.2
noncomputable def e_dbt (k : Nat) : Ent := ent [0, 0, 1] (ok_dbt k) ea_dbt (fun (x : Int × List Bool) => ([oT (.int .i64 x.1)], [nul, nul, oT (eO x.2)])) (f_dbt k)
/-- Slots that were met: each once. -/
structure MetK (l : List Nd) (m : List Int) : Prop where
  nd : m.Nodup
  sub : ∀ x ∈ m, isK l x = true
def ok_dbs (k : Nat) (x : Wd × Int × List Int) : Prop := (x.1.l.length < LM ∧ dbI x.1.l) ∧ MetK x.1.l x.2.2 ∧ x.1.l.length < x.2.2.length + k
def ea_dbs (x : Wd × Int × List Int) : List Arg := [aR x.1.cs, aI x.2.1, vT (eI x.2.2)]
def f_dbs (k : Nat) (x : Wd × Int × List Int) : Int × List Int := dbtS k x.1 x.2.1 x.2.2
noncomputable def e_dbs (k : Nat) : Ent := ent [0, 0, 3] (ok_dbs k) ea_dbs (fun (x : Int × List Int) => ([oT (.int .i64 x.1), oT (eI x.2)], [nul, nul, nul])) (f_dbs k)
theorem rowO_inj (x y : Bool) (h : ∀ k, (rowO x).getD k .hole = (rowO y).getD k .hole) : x = y := by
  have := h 0
  simp only [rowO, List.getD_cons_zero, T.bool.injEq] at this
  exact this
theorem eO_inj {l l' : List Bool} (h : eO l = eO l') : l = l' := eL_inj rowO_inj h
theorem ea_dbt_inj (x y : Wd × List Int × List Bool) (h : ea_dbt x = ea_dbt y) : x = y := by
  obtain ⟨w1, a1, m1⟩ := x
  obtain ⟨w2, a2, m2⟩ := y
  simp only [ea_dbt, List.cons.injEq, and_true, true_and] at h
  obtain ⟨e0, e1, e2⟩ := h
  obtain rfl := Wd.cs_ext (aR_inj e0)
  obtain rfl := eI_inj (aT_inj e1)
  obtain rfl := eO_inj (lT_inj e2)
  rfl
theorem ea_dbs_inj (x y : Wd × Int × List Int) (h : ea_dbs x = ea_dbs y) : x = y := by
  obtain ⟨w1, x1, m1⟩ := x
  obtain ⟨w2, x2, m2⟩ := y
  simp only [ea_dbs, List.cons.injEq, and_true, true_and] at h
  obtain ⟨e0, e1, e2⟩ := h
  obtain rfl := Wd.cs_ext (aR_inj e0)
  obtain rfl := aI_inj e1
  obtain rfl := eI_inj (vT_inj e2)
  rfl
theorem dm_dbt {k : Nat} {w : Wd} {a : List Int} {m : List Bool} (h : ok_dbt k (w, a, m)) : dom (ok_dbt k) ea_dbt [(0, true, [C.tr false (T.int IntKind.i64 w.c.chunks), C.tr false (T.int IntKind.i64 w.c.size), C.tr false (T.int IntKind.i64 w.c.slots), C.tr false (T.int IntKind.i64 w.c.tax), C.tr false (T.int IntKind.i64 w.c.slice), C.tr false (T.int IntKind.i64 w.c.gens), C.tr false (T.arr 1 w.p.mem.length (atL rowB w.p.mem)), C.tr false (T.arr 1 w.p.st.length (atL rowI w.p.st)), C.tr false (T.arr 1 w.p.own.length (atL rowI w.p.own)), C.tr false (T.arr 13 w.l.length (atL Nd.cs w.l)), C.tr false (T.arr 5 w.q.length (atL Ws.cs w.q)), C.tr false (T.arr 1 w.log.length (atL rowI w.log))]), (0, false, [C.tr false (T.arr 1 a.length (atL rowI a))]), (1, false, [C.tr true (T.arr 1 m.length (atL rowO m))])] = true := dom_ea (ea := ea_dbt) (x := (w, a, m)) h
theorem iv_dbt {k : Nat} {w : Wd} {a : List Int} {m : List Bool} (h : ok_dbt k (w, a, m)) : inv (ok_dbt k) ea_dbt [(0, true, [C.tr false (T.int IntKind.i64 w.c.chunks), C.tr false (T.int IntKind.i64 w.c.size), C.tr false (T.int IntKind.i64 w.c.slots), C.tr false (T.int IntKind.i64 w.c.tax), C.tr false (T.int IntKind.i64 w.c.slice), C.tr false (T.int IntKind.i64 w.c.gens), C.tr false (T.arr 1 w.p.mem.length (atL rowB w.p.mem)), C.tr false (T.arr 1 w.p.st.length (atL rowI w.p.st)), C.tr false (T.arr 1 w.p.own.length (atL rowI w.p.own)), C.tr false (T.arr 13 w.l.length (atL Nd.cs w.l)), C.tr false (T.arr 5 w.q.length (atL Ws.cs w.q)), C.tr false (T.arr 1 w.log.length (atL rowI w.log))]), (0, false, [C.tr false (T.arr 1 a.length (atL rowI a))]), (1, false, [C.tr true (T.arr 1 m.length (atL rowO m))])] = (w, a, m) := inv_ea ea_dbt_inj (x := (w, a, m)) h
theorem dm_dbs {k : Nat} {w : Wd} {x : Int} {m : List Int} (h : ok_dbs k (w, x, m)) : dom (ok_dbs k) ea_dbs [(0, true, [C.tr false (T.int IntKind.i64 w.c.chunks), C.tr false (T.int IntKind.i64 w.c.size), C.tr false (T.int IntKind.i64 w.c.slots), C.tr false (T.int IntKind.i64 w.c.tax), C.tr false (T.int IntKind.i64 w.c.slice), C.tr false (T.int IntKind.i64 w.c.gens), C.tr false (T.arr 1 w.p.mem.length (atL rowB w.p.mem)), C.tr false (T.arr 1 w.p.st.length (atL rowI w.p.st)), C.tr false (T.arr 1 w.p.own.length (atL rowI w.p.own)), C.tr false (T.arr 13 w.l.length (atL Nd.cs w.l)), C.tr false (T.arr 5 w.q.length (atL Ws.cs w.q)), C.tr false (T.arr 1 w.log.length (atL rowI w.log))]), (0, false, [C.tr false (T.int IntKind.i64 x)]), (3, false, [C.tr true (T.arr 1 m.length (atL rowI m))])] = true := dom_ea (ea := ea_dbs) (x := (w, x, m)) h
theorem iv_dbs {k : Nat} {w : Wd} {x : Int} {m : List Int} (h : ok_dbs k (w, x, m)) : inv (ok_dbs k) ea_dbs [(0, true, [C.tr false (T.int IntKind.i64 w.c.chunks), C.tr false (T.int IntKind.i64 w.c.size), C.tr false (T.int IntKind.i64 w.c.slots), C.tr false (T.int IntKind.i64 w.c.tax), C.tr false (T.int IntKind.i64 w.c.slice), C.tr false (T.int IntKind.i64 w.c.gens), C.tr false (T.arr 1 w.p.mem.length (atL rowB w.p.mem)), C.tr false (T.arr 1 w.p.st.length (atL rowI w.p.st)), C.tr false (T.arr 1 w.p.own.length (atL rowI w.p.own)), C.tr false (T.arr 13 w.l.length (atL Nd.cs w.l)), C.tr false (T.arr 5 w.q.length (atL Ws.cs w.q)), C.tr false (T.arr 1 w.log.length (atL rowI w.log))]), (0, false, [C.tr false (T.int IntKind.i64 x)]), (3, false, [C.tr true (T.arr 1 m.length (atL rowI m))])] = (w, x, m) := inv_ea ea_dbs_inj (x := (w, x, m)) h
def i_dbt : Nat := 161
noncomputable abbrev F_dbt : Func := f161
def kp_dbt : List (Nat × List Nat) := [(0, [4, 8, 12, 13, 10]), (1, [4, 8, 12, 13, 28, 10]), (2, [4, 8, 12, 13, 28, 40, 44, 48, 10]), (3, [4, 8, 12, 13, 28, 40, 44, 48, 52, 10]), (4, [4, 8, 12, 13, 28, 36, 40, 44, 48, 10]), (5, [4, 8, 12, 13, 28, 36, 40, 44, 48, 76, 10]), (6, [4, 8, 12, 13, 28, 36, 40, 44, 48, 10]), (7, [4, 8, 12, 13, 28, 40, 44, 48, 10]), (8, [4, 8, 12, 13, 28, 40, 44, 48, 10]), (9, [24, 10])]
def ts_dbt : List Nat := [0, 0, 1]
def st_dbt_1 (k : Nat) (w : Wd) (a : List Int) (m : List Bool) (x28 : Int) (x48 : Int) (nx10 : Nat) (fx10 : Nat → Nat → T) : St := [(4, ⟨z0, [(false, [.tr false (.arr (1) (a.length) (atL rowI a))])]⟩), (8, ⟨z0, [(false, [(C.ref 10 0 [0, 0] 1 0 m.length)])]⟩), (12, ⟨z0, [(false, [(C.pt (Pt.ptr 13 0 [] 12 0 0))])]⟩), (13, ⟨z0, [(true, [.tr true (T.int IntKind.i64 w.c.1), .tr true (T.int IntKind.i64 w.c.2), .tr true (T.int IntKind.i64 w.c.3), .tr true (T.int IntKind.i64 w.c.4), .tr true (T.int IntKind.i64 w.c.5), .tr true (T.int IntKind.i64 w.c.6), .tr false (eL 1 rowB w.p.1), .tr false (eL 1 rowI w.p.2), .tr false (eL 1 rowI w.p.3), .tr false (eL 13 Nd.cs w.3), .tr false (eL 5 Ws.cs w.4), .tr false (eL 1 rowI w.5)])]⟩), (28, ⟨z0, [(false, [.tr true (T.int IntKind.i64 x28)])]⟩), (40, ⟨z0, [(false, [.tr false (.arr (1) (a.length) (atL rowI a))])]⟩), (44, ⟨z0, [(false, [.tr true (T.int IntKind.i64 (↑a.length : Int))])]⟩), (48, ⟨z0, [(false, [.tr true (T.int IntKind.i64 x48)])]⟩), (10, ⟨z0, [(false, [.tr true (.arr (1) (nx10) (fx10))])]⟩)]
def ex_dbt_1_1 (k : Nat) (w : Wd) (a : List Int) (m : List Bool) (x28 : Int) (x48 : Int) (nx10 : Nat) (fx10 : Nat → Nat → T) : St := [(4, ⟨z0, [(false, [.tr false (.arr (1) (a.length) (atL rowI a))])]⟩), (8, ⟨z0, [(false, [(C.ref 10 0 [0, 0] 1 0 m.length)])]⟩), (12, ⟨z0, [(false, [(C.pt (Pt.ptr 13 0 [] 12 0 0))])]⟩), (13, ⟨z0, [(true, [.tr true (T.int IntKind.i64 w.c.1), .tr true (T.int IntKind.i64 w.c.2), .tr true (T.int IntKind.i64 w.c.3), .tr true (T.int IntKind.i64 w.c.4), .tr true (T.int IntKind.i64 w.c.5), .tr true (T.int IntKind.i64 w.c.6), .tr false (eL 1 rowB w.p.1), .tr false (eL 1 rowI w.p.2), .tr false (eL 1 rowI w.p.3), .tr false (eL 13 Nd.cs w.3), .tr false (eL 5 Ws.cs w.4), .tr false (eL 1 rowI w.5)])]⟩), (28, ⟨z0, [(false, [.tr true (T.int IntKind.i64 x28)])]⟩), (40, ⟨z0, [(false, [.tr false (.arr (1) (a.length) (atL rowI a))])]⟩), (44, ⟨z0, [(false, [.tr true (T.int IntKind.i64 (↑a.length : Int))])]⟩), (48, ⟨z0, [(false, [.tr true (T.int IntKind.i64 x48)])]⟩), (52, ⟨z0, []⟩), (10, ⟨z0, [(false, [.tr true (.arr (1) (nx10) (fx10))])]⟩)]
theorem round_dbt_1 (k : Nat) (w : Wd) (a : List Int) (m : List Bool) (x28 : Int) (x48 : Int) (nx10 : Nat) (fx10 : Nat → Nat → T) (n : Nat) (K : Ex → St → Res) : roundAt prog (tabS [(i_iKid, e_iKid), (i_iWst, e_iWst), (i_iStp, e_iStp), (i_dbt, e_dbt k)]) kp_dbt F_dbt [1, 1, 0, 1, 0] n (st_dbt_1 k w a m x28 x48 nx10 fx10) K = (
 bif decide (x48 < (↑a.length : Int)) then
  gd (decide (0 ≤ x48) && (x48.toNat.blt a.length && true)) <|
  gd (T.isI IntKind.i64 (atL rowI a x48.toNat 0)) <|
  gd (decide (0 ≤ (atL rowI a x48.toNat 0).toI) && ((atL rowI a x48.toNat 0).toI.toNat.blt m.length && true)) <|
  gd ((0 + (atL rowI a x48.toNat 0).toI.toNat).blt nx10 && true && (fx10 (0 + (atL rowI a x48.toNat 0).toI.toNat) 0).isB) <|
  bif (fx10 (0 + (atL rowI a x48.toNat 0).toI.toNat) 0).toB then
   K .normal (st_dbt_1 k w a m (x28) (IntKind.i64.wrap (x48 + 1)) (nx10) (fx10))
  else
  gd (decide (0 ≤ (atL rowI a x48.toNat 0).toI) && ((atL rowI a x48.toNat 0).toI.toNat.blt m.length && true)) <|
  gd ((0 + (atL rowI a x48.toNat 0).toI.toNat).blt nx10 && true && true) <|
  gd (decide (0 ≤ (atL rowI a x48.toNat 0).toI) && ((atL rowI a x48.toNat 0).toI.toNat.blt w.3.length && true)) <|
  gd (T.isI IntKind.i64 (atL Nd.cs w.3 (atL rowI a x48.toNat 0).toI.toNat 0) &&
                        T.isI IntKind.i64 (atL Nd.cs w.3 (atL rowI a x48.toNat 0).toI.toNat 1) &&
                      T.isI IntKind.i64 (atL Nd.cs w.3 (atL rowI a x48.toNat 0).toI.toNat 2) &&
                    T.isI IntKind.i64 (atL Nd.cs w.3 (atL rowI a x48.toNat 0).toI.toNat 3) &&
                  T.isI IntKind.i64 (atL Nd.cs w.3 (atL rowI a x48.toNat 0).toI.toNat 4) &&
                T.isI IntKind.i64 (atL Nd.cs w.3 (atL rowI a x48.toNat 0).toI.toNat 5) &&
              T.isI IntKind.i64 (atL Nd.cs w.3 (atL rowI a x48.toNat 0).toI.toNat 6) &&
            T.isI IntKind.i64 (atL Nd.cs w.3 (atL rowI a x48.toNat 0).toI.toNat 7) &&
          ((atL Nd.cs w.3 (atL rowI a x48.toNat 0).toI.toNat 8).isArr &&
            (atL Nd.cs w.3 (atL rowI a x48.toNat 0).toI.toNat 8).wd.beq 1) &&
        T.isI IntKind.i64 (atL Nd.cs w.3 (atL rowI a x48.toNat 0).toI.toNat 9) &&
      T.isI IntKind.i64 (atL Nd.cs w.3 (atL rowI a x48.toNat 0).toI.toNat 10) &&
    ((atL Nd.cs w.3 (atL rowI a x48.toNat 0).toI.toNat 11).isArr &&
      (atL Nd.cs w.3 (atL rowI a x48.toNat 0).toI.toNat 11).wd.beq 3) &&
  ((atL Nd.cs w.3 (atL rowI a x48.toNat 0).toI.toNat 12).isArr &&
    (atL Nd.cs w.3 (atL rowI a x48.toNat 0).toI.toNat 12).wd.beq 1)) <|
  entK ok_iWst ea_iWst (f_iWst) [(0, true,
    [C.tr false (T.int IntKind.i64 (atL Nd.cs w.3 (atL rowI a x48.toNat 0).toI.toNat 0).toI),
      C.tr false (T.int IntKind.i64 (atL Nd.cs w.3 (atL rowI a x48.toNat 0).toI.toNat 1).toI),
      C.tr false (T.int IntKind.i64 (atL Nd.cs w.3 (atL rowI a x48.toNat 0).toI.toNat 2).toI),
      C.tr false (T.int IntKind.i64 (atL Nd.cs w.3 (atL rowI a x48.toNat 0).toI.toNat 3).toI),
      C.tr false (T.int IntKind.i64 (atL Nd.cs w.3 (atL rowI a x48.toNat 0).toI.toNat 4).toI),
      C.tr false (T.int IntKind.i64 (atL Nd.cs w.3 (atL rowI a x48.toNat 0).toI.toNat 5).toI),
      C.tr false (T.int IntKind.i64 (atL Nd.cs w.3 (atL rowI a x48.toNat 0).toI.toNat 6).toI),
      C.tr false (T.int IntKind.i64 (atL Nd.cs w.3 (atL rowI a x48.toNat 0).toI.toNat 7).toI),
      C.tr false
        (T.arr 1 (atL Nd.cs w.3 (atL rowI a x48.toNat 0).toI.toNat 8).ln
          (atL Nd.cs w.3 (atL rowI a x48.toNat 0).toI.toNat 8).fn),
      C.tr false (T.int IntKind.i64 (atL Nd.cs w.3 (atL rowI a x48.toNat 0).toI.toNat 9).toI),
      C.tr false (T.int IntKind.i64 (atL Nd.cs w.3 (atL rowI a x48.toNat 0).toI.toNat 10).toI),
      C.tr false
        (T.arr 3 (atL Nd.cs w.3 (atL rowI a x48.toNat 0).toI.toNat 11).ln
          (atL Nd.cs w.3 (atL rowI a x48.toNat 0).toI.toNat 11).fn),
      C.tr false
        (T.arr 1 (atL Nd.cs w.3 (atL rowI a x48.toNat 0).toI.toNat 12).ln
          (atL Nd.cs w.3 (atL rowI a x48.toNat 0).toI.toNat 12).fn)]),
  (0, false, [C.tr false (T.int IntKind.i64 0)])] fun (r1 : Ws) =>
  gd ((0 + r1.3.length).ble r1.3.length) <|
  gd ((0 + r1.4.length).ble r1.4.length) <|
  entK ok_iStp ea_iStp (f_iStp) [(0, true,
    [C.tr false (T.int IntKind.i64 w.c.1), C.tr false (T.int IntKind.i64 w.c.2),
      C.tr false (T.int IntKind.i64 w.c.3), C.tr false (T.int IntKind.i64 w.c.4),
      C.tr false (T.int IntKind.i64 w.c.5), C.tr false (T.int IntKind.i64 w.c.6)]),
  (0, true,
    [C.tr false (T.int IntKind.i64 r1.1), C.tr false (T.int IntKind.i64 r1.2),
      C.tr false (T.arr 1 r1.3.length (cutT 0 r1.3.length (eL 1 rowI r1.3).fn)),
      C.tr false (T.arr 1 r1.4.length (cutT 0 r1.4.length (eL 1 rowI r1.4).fn)),
      C.tr false (T.int IntKind.i64 r1.5)])] fun (r2 : Int) =>
  gd (decide (0 ≤ (atL rowI a x48.toNat 0).toI) && ((atL rowI a x48.toNat 0).toI.toNat.blt w.3.length && true)) <|
  gd (T.isI IntKind.i64 (atL Nd.cs w.3 (atL rowI a x48.toNat 0).toI.toNat 5)) <|
  entK ok_iKid ea_iKid (f_iKid) [(0, false, [C.tr false (eL 13 Nd.cs w.3)]),
  (0, false, [C.tr false (T.int IntKind.i64 (atL Nd.cs w.3 (atL rowI a x48.toNat 0).toI.toNat 5).toI)])] fun (r3 : List Int) =>
  gd (m.length.beq nx10 && true) <|
  gd ((0 + r3.length).ble r3.length) <|
  entK (ok_dbt k) ea_dbt (f_dbt k) [(0, true,
    [C.tr false (T.int IntKind.i64 w.c.1), C.tr false (T.int IntKind.i64 w.c.2),
      C.tr false (T.int IntKind.i64 w.c.3), C.tr false (T.int IntKind.i64 w.c.4),
      C.tr false (T.int IntKind.i64 w.c.5), C.tr false (T.int IntKind.i64 w.c.6), C.tr false (eL 1 rowB w.p.1),
      C.tr false (eL 1 rowI w.p.2), C.tr false (eL 1 rowI w.p.3), C.tr false (eL 13 Nd.cs w.3),
      C.tr false (eL 5 Ws.cs w.4), C.tr false (eL 1 rowI w.5)]),
  (0, false, [C.tr false (T.arr 1 r3.length (cutT 0 r3.length (atL rowI r3)))]),
  (1, false, [C.tr true (T.arr 1 m.length (setF (0 + (atL rowI a x48.toNat 0).toI.toNat) 0 (T.bool true) fx10))])] fun (r4 : Int × List Bool) =>
  gd (m.length.beq r4.2.length && true) <|
  K .normal (st_dbt_1 k w a m (IntKind.i64.wrap (x28 + IntKind.i64.wrap (IntKind.i64.wrap (1 + r2) + r4.1))) (IntKind.i64.wrap (x48 + 1)) (r4.2.length) (atL rowO r4.2))
 else
 K (.exit 0) (ex_dbt_1_1 k w a m x28 x48 nx10 fx10)) := by kernel_rfl
theorem post_dbt_1_1 (k : Nat) (w : Wd) (a : List Int) (m : List Bool) (x28 : Int) (x48 : Int) (nx10 : Nat) (fx10 : Nat → Nat → T) (n : Nat) : contAt prog (tabS [(i_iKid, e_iKid), (i_iWst, e_iWst), (i_iStp, e_iStp), (i_dbt, e_dbt k)]) kp_dbt F_dbt ts_dbt [1, 1, 0, 1, 0] [] n (.exit 0) (ex_dbt_1_1 k w a m x28 x48 nx10 fx10) = (
 some ([(false, [.tr true (T.int IntKind.i64 x28)])], [(false, []), (false, []), (false, [.tr true (.arr (1) (nx10) (fx10))])])) := by kernel_rfl
theorem pre_dbt (k : Nat) (w : Wd) (a : List Int) (m : List Bool) (n : Nat) : body prog (tabS [(i_iKid, e_iKid), (i_iWst, e_iWst), (i_iStp, e_iStp), (i_dbt, e_dbt k)]) kp_dbt n F_dbt [aR w.cs, aT (eI a), lT (eO m)] = (
 loopAt prog (tabS [(i_iKid, e_iKid), (i_iWst, e_iWst), (i_iStp, e_iStp), (i_dbt, e_dbt k)]) kp_dbt F_dbt [1, 1, 0, 1, 0] n n (st_dbt_1 k w a m (0) (0) (m.length) (atL rowO m)) (contAt prog (tabS [(i_iKid, e_iKid), (i_iWst, e_iWst), (i_iStp, e_iStp), (i_dbt, e_dbt k)]) kp_dbt F_dbt ts_dbt [1, 1, 0, 1, 0] [] n)) := by kernel_rfl
def i_dbs : Nat := 158
noncomputable abbrev F_dbs : Func := f158
def kp_dbs : List (Nat × List Nat) := [(0, [4, 8, 12, 13, 84, 88, 92, 10]), (1, [4, 8, 12, 13, 96, 10]), (2, [24, 28, 10]), (3, [4, 8, 12, 13, 10]), (4, [4, 8, 12, 13, 32, 10]), (5, [8, 12, 13, 32, 36, 10]), (6, [8, 12, 13, 32, 36, 40, 10]), (7, [8, 12, 13, 32, 36, 40, 216, 10]), (8, [8, 12, 13, 32, 36, 40, 10]), (9, [12, 13, 32, 36, 40, 44, 48, 10]), (10, [12, 13, 32, 36, 40, 48, 10]), (11, [8, 12, 13, 32, 36, 40, 10]), (12, [24, 28, 10])]
def ts_dbs : List Nat := [0, 0, 3]
def st_dbs_1 (k : Nat) (w : Wd) (x : Int) (m : List Int) (r4 : List Int) (nx8 : Nat) (fx8 : Nat → Nat → T) (x32 : Int) (x40 : Int) : St := [(8, ⟨z0, [(false, [.tr true (.arr (1) (nx8) (fx8))])]⟩), (12, ⟨z0, [(false, [(C.pt (Pt.ptr 13 0 [] 12 0 0))])]⟩), (13, ⟨z0, [(true, [.tr true (T.int IntKind.i64 w.c.1), .tr true (T.int IntKind.i64 w.c.2), .tr true (T.int IntKind.i64 w.c.3), .tr true (T.int IntKind.i64 w.c.4), .tr true (T.int IntKind.i64 w.c.5), .tr true (T.int IntKind.i64 w.c.6), .tr false (eL 1 rowB w.p.1), .tr false (eL 1 rowI w.p.2), .tr false (eL 1 rowI w.p.3), .tr false (eL 13 Nd.cs w.3), .tr false (eL 5 Ws.cs w.4), .tr false (eL 1 rowI w.5)])]⟩), (32, ⟨z0, [(false, [.tr true (T.int IntKind.i64 x32)])]⟩), (36, ⟨z0, [(false, [.tr true (.arr (1) (r4.length) (atL rowI r4))])]⟩), (40, ⟨z0, [(false, [.tr true (T.int IntKind.i64 x40)])]⟩)]
def ex_dbs_1_1 (k : Nat) (w : Wd) (x : Int) (m : List Int) (r4 : List Int) (nx8 : Nat) (fx8 : Nat → Nat → T) (x32 : Int) (x40 : Int) : St := [(8, ⟨z0, [(false, [.tr true (.arr (1) (nx8) (fx8))])]⟩), (12, ⟨z0, [(false, [(C.pt (Pt.ptr 13 0 [] 12 0 0))])]⟩), (13, ⟨z0, [(true, [.tr true (T.int IntKind.i64 w.c.1), .tr true (T.int IntKind.i64 w.c.2), .tr true (T.int IntKind.i64 w.c.3), .tr true (T.int IntKind.i64 w.c.4), .tr true (T.int IntKind.i64 w.c.5), .tr true (T.int IntKind.i64 w.c.6), .tr false (eL 1 rowB w.p.1), .tr false (eL 1 rowI w.p.2), .tr false (eL 1 rowI w.p.3), .tr false (eL 13 Nd.cs w.3), .tr false (eL 5 Ws.cs w.4), .tr false (eL 1 rowI w.5)])]⟩), (32, ⟨z0, [(false, [.tr true (T.int IntKind.i64 x32)])]⟩), (36, ⟨z0, [(false, [.tr true (.arr (1) (r4.length) (atL rowI r4))])]⟩), (40, ⟨z0, [(false, [.tr true (T.int IntKind.i64 x40)])]⟩), (216, ⟨z0, []⟩)]
theorem round_dbs_1 (k : Nat) (w : Wd) (x : Int) (m : List Int) (r4 : List Int) (nx8 : Nat) (fx8 : Nat → Nat → T) (x32 : Int) (x40 : Int) (n : Nat) (K : Ex → St → Res) : roundAt prog (tabS [(i_l1In, e_l1In), (i_l7Has, e_l7Has), (i_sKid, e_sKid), (i_sWst, e_sWst), (i_sStp, e_sStp), (i_dbs, e_dbs k)]) kp_dbs F_dbs [1, 1, 1, 1, 1, 0, 1, 0] n (st_dbs_1 k w x m r4 nx8 fx8 x32 x40) K = (
 bif decide (x40 < (↑r4.length : Int)) then
  gd (decide (0 ≤ x40) && (x40.toNat.blt r4.length && true)) <|
  gd ((0 + x40.toNat).blt r4.length && true && T.isI IntKind.i64 (atL rowI r4 (0 + x40.toNat) 0)) <|
  gd (nx8.ble nx8 && true) <|
  entK (ok_dbs k) ea_dbs (f_dbs k) [(0, true,
    [C.tr false (T.int IntKind.i64 w.c.1), C.tr false (T.int IntKind.i64 w.c.2),
      C.tr false (T.int IntKind.i64 w.c.3), C.tr false (T.int IntKind.i64 w.c.4),
      C.tr false (T.int IntKind.i64 w.c.5), C.tr false (T.int IntKind.i64 w.c.6), C.tr false (eL 1 rowB w.p.1),
      C.tr false (eL 1 rowI w.p.2), C.tr false (eL 1 rowI w.p.3), C.tr false (eL 13 Nd.cs w.3),
      C.tr false (eL 5 Ws.cs w.4), C.tr false (eL 1 rowI w.5)]),
  (0, false, [C.tr false (T.int IntKind.i64 (atL rowI r4 (0 + x40.toNat) 0).toI)]),
  (3, false, [C.tr true (T.arr 1 nx8 fx8)])] fun (r5 : Int × List Int) =>
  gd (r5.2.length.ble r5.2.length && true) <|
  gd (r5.2.length.ble r5.2.length && true) <|
  K .normal (st_dbs_1 k w x m r4 (r5.2.length) (atL rowI r5.2) (IntKind.i64.wrap (x32 + r5.1)) (IntKind.i64.wrap (x40 + 1)))
 else
 K (.exit 0) (ex_dbs_1_1 k w x m r4 nx8 fx8 x32 x40)) := by kernel_rfl
theorem post_dbs_1_1 (k : Nat) (w : Wd) (x : Int) (m : List Int) (r4 : List Int) (nx8 : Nat) (fx8 : Nat → Nat → T) (x32 : Int) (x40 : Int) (n : Nat) : contAt prog (tabS [(i_l1In, e_l1In), (i_l7Has, e_l7Has), (i_sKid, e_sKid), (i_sWst, e_sWst), (i_sStp, e_sStp), (i_dbs, e_dbs k)]) kp_dbs F_dbs ts_dbs [1, 1, 1, 1, 1, 0, 1, 0] [] n (.exit 0) (ex_dbs_1_1 k w x m r4 nx8 fx8 x32 x40) = (
 gd (nx8.ble nx8 && true) <|
 gd (nx8.ble nx8 && true) <|
 some ([(false, [.tr true (T.int IntKind.i64 x32)]), (false, [.tr true (.arr (1) (nx8) (fx8))])], [(false, []), (false, []), (false, [])])) := by kernel_rfl
theorem pre_dbs (k : Nat) (w : Wd) (x : Int) (m : List Int) (n : Nat) : body prog (tabS [(i_l1In, e_l1In), (i_l7Has, e_l7Has), (i_sKid, e_sKid), (i_sWst, e_sWst), (i_sStp, e_sStp), (i_dbs, e_dbs k)]) kp_dbs n F_dbs [aR w.cs, aI x, vT (eI m)] = (
 bif decide (0 ≤ x) then
  bif !decide (x ≤ IntKind.i64.wrap ((↑w.3.length : Int) - 1)) then
   gd (m.length.ble m.length && true) <|
   gd (m.length.ble m.length && true) <|
   some ([(false, [.tr true (T.int IntKind.i64 0)]), (false, [.tr true (.arr (1) (m.length) (atL rowI m))])], [(false, []), (false, []), (false, [])])
  else
  gd ((0 + m.length).ble m.length) <|
  entK ok_l7Has ea_l7Has (f_l7Has) [(0, false, [C.tr false (T.arr 1 m.length (cutT 0 m.length (atL rowI m)))]),
  (0, false, [C.tr false (T.int IntKind.i64 x)])] fun (r1 : Bool) =>
  bif r1 then
   gd (m.length.ble m.length && true) <|
   gd (m.length.ble m.length && true) <|
   some ([(false, [.tr true (T.int IntKind.i64 0)]), (false, [.tr true (.arr (1) (m.length) (atL rowI m))])], [(false, []), (false, []), (false, [])])
  else
  gd ((0 + m.length).ble m.length) <|
  gd (((0 + m.length) * 8).ble 70368744177664 && (0 + m.length).ble 70368744177664) <|
  gd ((0 + m.length).ble (0 + m.length) && true) <|
  gd (((0 + m.length + 1) * 8).ble 70368744177664 && (0 + m.length + 1).ble 70368744177664) <|
  gd ((0 + m.length + 1).ble (0 + m.length + 1) && true) <|
  gd (decide (0 ≤ x) && (x.toNat.blt w.3.length && true)) <|
  gd (T.isI IntKind.i64 (atL Nd.cs w.3 x.toNat 0) && T.isI IntKind.i64 (atL Nd.cs w.3 x.toNat 1) &&
                      T.isI IntKind.i64 (atL Nd.cs w.3 x.toNat 2) &&
                    T.isI IntKind.i64 (atL Nd.cs w.3 x.toNat 3) &&
                  T.isI IntKind.i64 (atL Nd.cs w.3 x.toNat 4) &&
                T.isI IntKind.i64 (atL Nd.cs w.3 x.toNat 5) &&
              T.isI IntKind.i64 (atL Nd.cs w.3 x.toNat 6) &&
            T.isI IntKind.i64 (atL Nd.cs w.3 x.toNat 7) &&
          ((atL Nd.cs w.3 x.toNat 8).isArr && (atL Nd.cs w.3 x.toNat 8).wd.beq 1) &&
        T.isI IntKind.i64 (atL Nd.cs w.3 x.toNat 9) &&
      T.isI IntKind.i64 (atL Nd.cs w.3 x.toNat 10) &&
    ((atL Nd.cs w.3 x.toNat 11).isArr && (atL Nd.cs w.3 x.toNat 11).wd.beq 3) &&
  ((atL Nd.cs w.3 x.toNat 12).isArr && (atL Nd.cs w.3 x.toNat 12).wd.beq 1)) <|
  entK ok_sWst ea_sWst (f_sWst) [(0, true,
    [C.tr false (T.int IntKind.i64 (atL Nd.cs w.3 x.toNat 0).toI),
      C.tr false (T.int IntKind.i64 (atL Nd.cs w.3 x.toNat 1).toI),
      C.tr false (T.int IntKind.i64 (atL Nd.cs w.3 x.toNat 2).toI),
      C.tr false (T.int IntKind.i64 (atL Nd.cs w.3 x.toNat 3).toI),
      C.tr false (T.int IntKind.i64 (atL Nd.cs w.3 x.toNat 4).toI),
      C.tr false (T.int IntKind.i64 (atL Nd.cs w.3 x.toNat 5).toI),
      C.tr false (T.int IntKind.i64 (atL Nd.cs w.3 x.toNat 6).toI),
      C.tr false (T.int IntKind.i64 (atL Nd.cs w.3 x.toNat 7).toI),
      C.tr false (T.arr 1 (atL Nd.cs w.3 x.toNat 8).ln (atL Nd.cs w.3 x.toNat 8).fn),
      C.tr false (T.int IntKind.i64 (atL Nd.cs w.3 x.toNat 9).toI),
      C.tr false (T.int IntKind.i64 (atL Nd.cs w.3 x.toNat 10).toI),
      C.tr false (T.arr 3 (atL Nd.cs w.3 x.toNat 11).ln (atL Nd.cs w.3 x.toNat 11).fn),
      C.tr false (T.arr 1 (atL Nd.cs w.3 x.toNat 12).ln (atL Nd.cs w.3 x.toNat 12).fn)]),
  (0, false, [C.tr false (T.int IntKind.i64 0)])] fun (r2 : Ws) =>
  gd ((0 + r2.3.length).ble r2.3.length) <|
  gd ((0 + r2.4.length).ble r2.4.length) <|
  entK ok_sStp ea_sStp (f_sStp) [(0, true,
    [C.tr false (T.int IntKind.i64 w.c.1), C.tr false (T.int IntKind.i64 w.c.2),
      C.tr false (T.int IntKind.i64 w.c.3), C.tr false (T.int IntKind.i64 w.c.4),
      C.tr false (T.int IntKind.i64 w.c.5), C.tr false (T.int IntKind.i64 w.c.6)]),
  (0, true,
    [C.tr false (T.int IntKind.i64 r2.1), C.tr false (T.int IntKind.i64 r2.2),
      C.tr false (T.arr 1 r2.3.length (cutT 0 r2.3.length (eL 1 rowI r2.3).fn)),
      C.tr false (T.arr 1 r2.4.length (cutT 0 r2.4.length (eL 1 rowI r2.4).fn)),
      C.tr false (T.int IntKind.i64 r2.5)])] fun (r3 : Int) =>
  gd (decide (0 ≤ x) && (x.toNat.blt w.3.length && true)) <|
  gd (T.isI IntKind.i64 (atL Nd.cs w.3 x.toNat 5)) <|
  entK ok_sKid ea_sKid (f_sKid) [(0, false, [C.tr false (eL 13 Nd.cs w.3)]),
  (0, false, [C.tr false (T.int IntKind.i64 (atL Nd.cs w.3 x.toNat 5).toI)])] fun (r4 : List Int) =>
  gd (r4.length.ble r4.length && true) <|
  loopAt prog (tabS [(i_l1In, e_l1In), (i_l7Has, e_l7Has), (i_sKid, e_sKid), (i_sWst, e_sWst), (i_sStp, e_sStp), (i_dbs, e_dbs k)]) kp_dbs F_dbs [1, 1, 1, 1, 1, 0, 1, 0] n n (st_dbs_1 k w x m r4 (0 + m.length + 1) (appF (0 + m.length) (appF 0 (rowsT []) (plainF (cutT 0 m.length (atL rowI m))))
  (plainF (cutT 0 1 (rowsT [[T.int IntKind.i64 x]])))) (IntKind.i64.wrap (1 + r3)) (0)) (contAt prog (tabS [(i_l1In, e_l1In), (i_l7Has, e_l7Has), (i_sKid, e_sKid), (i_sWst, e_sWst), (i_sStp, e_sStp), (i_dbs, e_dbs k)]) kp_dbs F_dbs ts_dbs [1, 1, 1, 1, 1, 0, 1, 0] [] n)
 else
 gd (m.length.ble m.length && true) <|
 gd (m.length.ble m.length && true) <|
 some ([(false, [.tr true (T.int IntKind.i64 0)]), (false, [.tr true (.arr (1) (m.length) (atL rowI m))])], [(false, []), (false, []), (false, [])])) := by kernel_rfl
end Go.Mach.F
namespace Go.Mach.F
open Go Go.Mach Go.Proofs.Try
theorem isK_iff {l : List Nd} {k : Int} : isK l k = true ↔ 0 ≤ k ∧ k < (l.length : Int) := by
  unfold isK
  rw [Bool.and_eq_true, decide_eq_true_eq, decide_eq_true_eq]
theorem kidM_isK (l : List Nd) : ∀ n f, ∀ y ∈ kidN l n f, isK l y = true
  | 0, _, y, h => by cases h
  | n + 1, f, y, h => by
    unfold kidN at h
    by_cases h1 : 1 ≤ f
    · by_cases h2 : f ≤ (l.length : Int)
      · rw [decide_eq_true h1, decide_eq_true h2, Bool.and_self, cond_true] at h
        rcases List.mem_cons.1 h with rfl | h3
        · exact isK_iff.2 ⟨by omega, by omega⟩
        · exact kidM_isK l n _ y h3
      · rw [decide_eq_false h2, Bool.and_false, cond_false] at h
        cases h
    · rw [decide_eq_false h1, Bool.false_and, cond_false] at h
      cases h
theorem kidL_isK {l : List Nd} {f : Int} : ∀ y ∈ kids l f, isK l y = true := kidM_isK l _ f
theorem kidM_len (l : List Nd) : ∀ n f, (kidN l n f).length ≤ n
  | 0, _ => Nat.le_refl _
  | n + 1, f => by
    unfold kidN
    cases decide (1 ≤ f) && decide (f ≤ (l.length : Int)) with
    | false => exact Nat.zero_le _
    | true =>
      have := kidM_len l n (nd l (f - 1)).next
      simp only [cond_true, List.length_cons]
      omega
theorem kidL_len {l : List Nd} {f : Int} : (kids l f).length ≤ l.length := kidM_len l _ f
theorem bo_get {m : List Bool} {k : Int} (h : k.toNat < m.length) : m[k.toNat]? = some (bo m k) := by
  unfold bo
  rw [List.getD_eq_getElem?_getD, List.getElem?_eq_getElem h]
  rfl
theorem cnt_set : ∀ {m : List Bool} {i : Nat}, m[i]? = some false → (m.set i true).count false + 1 = m.count false
  | [], i, h => by cases h
  | b :: m, 0, h => by
    simp only [List.getElem?_cons_zero, Option.some.injEq] at h
    subst h
    simp
  | b :: m, i + 1, h => by
    have := cnt_set (m := m) (i := i) (by simpa using h)
    rw [List.set_cons_succ, List.count_cons, List.count_cons]
    omega
/-- What was met stays met. -/
def BoP (n c : Nat) (m : List Bool) : Prop := m.length = n ∧ m.count false ≤ c
theorem fold_inv2 {α β : Type} (P : β → Prop) (F : β → α → β) : ∀ (l : List α) (b : β), P b → (∀ c y, y ∈ l → P c → P (F c y)) → P (l.foldl F b)
  | [], _, h, _ => h
  | x :: l, b, h, hf => fold_inv2 P F l (F b x) (hf b x List.mem_cons_self h) fun c y hy => hf c y (List.mem_cons_of_mem _ hy)
theorem dbtI_inv (w : Wd) : ∀ (k : Nat) (a : List Int) (m : List Bool) (c : Nat), (∀ y ∈ a, isK w.l y = true) → BoP w.l.length c m → BoP w.l.length c (dbtI k w a m).2
  | 0, _, _, _, _, h => h
  | k + 1, a, m, c, ha, h => by
    unfold dbtI
    refine fold_inv2 (fun b : Int × List Bool => BoP w.l.length c b.2) _ _ _ h fun b y hy hb => ?_
    cases e : bo b.2 y with
    | true => exact hb
    | false =>
      simp only [cond_false]
      have hk := isK_iff.1 (ha y hy)
      have hlt : y.toNat < b.2.length := by rw [hb.1]; omega
      have hg := bo_get hlt
      rw [e] at hg
      have hc := cnt_set hg
      exact dbtI_inv w k _ _ c kidL_isK ⟨by rw [List.length_set]; exact hb.1, by have := hb.2; omega⟩
theorem MetK.len {l : List Nd} {m : List Int} (h : MetK l m) : m.length ≤ l.length := by
  have hn : ∀ (n : Nat) (m : List Int), m.Nodup → (∀ x ∈ m, 0 ≤ x ∧ x < (n : Int)) → m.length ≤ n := by
    intro n
    induction n with
    | zero =>
      intro m _ h
      cases m with
      | nil => exact Nat.le_refl _
      | cons x m => have := h x List.mem_cons_self; omega
    | succ n ih =>
      intro m hm h
      have h1 := ih (m.erase (n : Int)) (hm.erase _) fun x hx => by
        rw [hm.mem_erase_iff] at hx
        have := h x hx.2
        have := hx.1
        omega
      rw [List.length_erase] at h1
      split at h1 <;> omega
  exact hn _ _ h.nd fun x hx => isK_iff.1 (h.sub x hx)
theorem has_iff {m : List Int} {x : Int} : has m x = true ↔ x ∈ m := by unfold has; rw [decide_eq_true_eq]
theorem MetK.add {l : List Nd} {m : List Int} {x : Int} (h : MetK l m) (hx : isK l x = true) (hn : has m x = false) : MetK l (m ++ [x]) := by
  refine ⟨?_, fun y hy => ?_⟩
  · rw [List.nodup_append]
    refine ⟨h.nd, by simp, fun a ha b hb e => ?_⟩
    rw [List.mem_singleton] at hb
    subst hb
    subst e
    rw [has_iff.2 ha] at hn
    cases hn
  · rcases List.mem_append.1 hy with h1 | h1
    · exact h.sub y h1
    · rw [List.mem_singleton] at h1
      subst h1
      exact hx
def MeP (l : List Nd) (n : Nat) (m : List Int) : Prop := MetK l m ∧ n ≤ m.length
theorem dbtS_inv (w : Wd) : ∀ (k : Nat) (x : Int) (m : List Int) (n : Nat), MeP w.l n m → MeP w.l n (dbtS k w x m).2
  | 0, _, _, _, h => h
  | k + 1, x, m, n, h => by
    unfold dbtS
    cases e : isK w.l x with
    | false => exact h
    | true =>
      cases e1 : has m x with
      | true => exact h
      | false =>
        simp only [Bool.not_false, Bool.and_self, cond_true]
        refine fold_inv2 (fun b : Int × List Int => MeP w.l n b.2) _ _ _ ⟨h.1.add e e1, ?_⟩ fun b y hy hb => dbtS_inv w k y b.2 n hb
        have := h.2
        simp only [List.length_append, List.length_singleton]
        omega
theorem wrap_add_l (a b : Int) : IntKind.i64.wrap (IntKind.i64.wrap a + b) = IntKind.i64.wrap (a + b) := by
  rw [IntKind.wrap_i64, IntKind.wrap_i64, IntKind.wrap_i64]
  omega
theorem wrap_add_r (a b : Int) : IntKind.i64.wrap (a + IntKind.i64.wrap b) = IntKind.i64.wrap (a + b) := by
  rw [Int.add_comm, wrap_add_l, Int.add_comm]
theorem wrap_wrap (a : Int) : IntKind.i64.wrap (IntKind.i64.wrap a) = IntKind.i64.wrap a := by
  have := wrap_add_l a 0
  simpa using this
/-- Both lists of what was met say the same. -/
def SameMet (n : Nat) (mb : List Bool) (m : List Int) : Prop := mb.length = n ∧ ∀ k : Int, 0 ≤ k → k < (n : Int) → bo mb k = has m k
theorem bo_set {mb : List Bool} {k j : Int} (hk : 0 ≤ k) (hj : 0 ≤ j) (h : k.toNat < mb.length) : bo (mb.set k.toNat true) j = (decide (j = k) || bo mb j) := by
  unfold bo
  rw [List.getD_eq_getElem?_getD, List.getD_eq_getElem?_getD]
  by_cases e : j = k
  · subst e
    rw [List.getElem?_set_self h]
    simp
  · have : k.toNat ≠ j.toNat := by omega
    rw [List.getElem?_set_ne this]
    simp [e]
theorem SameMet.add {n : Nat} {mb : List Bool} {m : List Int} {x : Int} (h : SameMet n mb m) (h0 : 0 ≤ x) (h1 : x < (n : Int)) : SameMet n (mb.set x.toNat true) (m ++ [x]) := by
  refine ⟨by rw [List.length_set]; exact h.1, fun k hk hn => ?_⟩
  rw [bo_set h0 hk (by rw [h.1]; omega), h.2 k hk hn]
  unfold has
  by_cases e : k = x
  · simp [e]
  · simp [e]
/-- A sum from another start. -/
theorem dbt_start (w : Wd) (n : Nat) (s : Int) : ∀ (a : List Int) (t : Int) (m : List Int), let F := fun (b : Int × List Int) y => (IntKind.i64.wrap (b.1 + (dbtS n w y b.2).1), (dbtS n w y b.2).2)
    IntKind.i64.wrap (a.foldl F (IntKind.i64.wrap (s + t), m)).1 = IntKind.i64.wrap (s + (a.foldl F (t, m)).1) ∧ (a.foldl F (IntKind.i64.wrap (s + t), m)).2 = (a.foldl F (t, m)).2
  | [], t, m => ⟨wrap_wrap _, rfl⟩
  | x :: a, t, m => by
    intro F
    simp only [List.foldl_cons]
    have := dbt_start w n s a (IntKind.i64.wrap (t + (dbtS n w x m).1)) (dbtS n w x m).2
    simp only at this
    have e : F (IntKind.i64.wrap (s + t), m) x = (IntKind.i64.wrap (s + IntKind.i64.wrap (t + (dbtS n w x m).1)), (dbtS n w x m).2) := by
      show (IntKind.i64.wrap (IntKind.i64.wrap (s + t) + (dbtS n w x m).1), _) = _
      rw [wrap_add_l, wrap_add_r, Int.add_assoc]
    rw [e]
    exact this
theorem wrapped_fold (w : Wd) (n : Nat) : ∀ (a : List Int) (b : Int × List Int), IntKind.i64.wrap b.1 = b.1 → let F := fun (b : Int × List Int) y => (IntKind.i64.wrap (b.1 + (dbtS n w y b.2).1), (dbtS n w y b.2).2)
    IntKind.i64.wrap (a.foldl F b).1 = (a.foldl F b).1
  | [], b, h => h
  | x :: a, b, h => by
    intro F
    simp only [List.foldl_cons]
    exact wrapped_fold w n a _ (wrap_wrap _)
theorem ow_wrap (w : Wd) (k : Int) : IntKind.i64.wrap (ow w k) = ow w k := wrap_wrap _
/-- Both walks owe the same. -/
theorem dbt_same (w : Wd) : ∀ (k : Nat) (a : List Int) (mb : List Bool) (m : List Int), SameMet w.l.length mb m → (∀ y ∈ a, isK w.l y = true) →
    (dbtI k w a mb).1 = (a.foldl (fun (b : Int × List Int) y => (IntKind.i64.wrap (b.1 + (dbtS k w y b.2).1), (dbtS k w y b.2).2)) (0, m)).1 ∧
    SameMet w.l.length (dbtI k w a mb).2 (a.foldl (fun (b : Int × List Int) y => (IntKind.i64.wrap (b.1 + (dbtS k w y b.2).1), (dbtS k w y b.2).2)) (0, m)).2
  | 0, a, mb, m, h, ha => by
    have e : ∀ (a : List Int), a.foldl (fun (b : Int × List Int) y => (IntKind.i64.wrap (b.1 + (dbtS 0 w y b.2).1), (dbtS 0 w y b.2).2)) (0, m) = (0, m) := fun a => by
      induction a with
      | nil => rfl
      | cons x a ih =>
        rw [List.foldl_cons]
        exact ih
    rw [e]
    exact ⟨rfl, h⟩
  | k + 1, a, mb, m, h, ha => by
    have key : ∀ (a : List Int) (s : Int) (mb : List Bool) (m : List Int), IntKind.i64.wrap s = s → SameMet w.l.length mb m → (∀ y ∈ a, isK w.l y = true) →
      let r := a.foldl (fun (b : Int × List Bool) x => bif bo b.2 x then b else
        (IntKind.i64.wrap (b.1 + IntKind.i64.wrap (ow w x + (dbtI k w (kids w.l (nd w.l x).first) (b.2.set x.toNat true)).1)), (dbtI k w (kids w.l (nd w.l x).first) (b.2.set x.toNat true)).2)) (s, mb)
      let q := a.foldl (fun (b : Int × List Int) y => (IntKind.i64.wrap (b.1 + (dbtS (k + 1) w y b.2).1), (dbtS (k + 1) w y b.2).2)) (s, m)
      r.1 = q.1 ∧ SameMet w.l.length r.2 q.2 := by
      intro a
      induction a with
      | nil => intro s mb m _ h _; exact ⟨rfl, h⟩
      | cons x a ih =>
        intro s mb m hs h ha
        simp only [List.foldl_cons]
        have hx := ha x List.mem_cons_self
        obtain ⟨h0, h1⟩ := isK_iff.1 hx
        have hb := h.2 x h0 h1
        cases e : has m x with
        | true =>
          rw [e] at hb
          have e2 : dbtS (k + 1) w x m = (0, m) := by
            unfold dbtS
            rw [e, Bool.not_true, Bool.and_false, cond_false]
          rw [hb, cond_true, e2]
          simp only [Int.add_zero, hs]
          exact ih s mb m hs h fun y hy => ha y (List.mem_cons_of_mem _ hy)
        | false =>
          rw [e] at hb
          have e2 : dbtS (k + 1) w x m = (kids w.l (nd w.l x).first).foldl (fun b y => (IntKind.i64.wrap (b.1 + (dbtS k w y b.2).1), (dbtS k w y b.2).2)) (ow w x, m ++ [x]) := by
            conv => lhs; unfold dbtS
            rw [hx, e, Bool.not_false, Bool.and_self, cond_true]
          have h2 := h.add h0 h1
          have hd := dbt_same w k (kids w.l (nd w.l x).first) _ _ h2 kidL_isK
          have hst := dbt_start w k (ow w x) (kids w.l (nd w.l x).first) 0 (m ++ [x])
          simp only [Int.add_zero, ow_wrap] at hst
          have hw := wrapped_fold w k (kids w.l (nd w.l x).first) (ow w x, m ++ [x]) (ow_wrap _ _)
          simp only at hw
          rw [hw] at hst
          rw [hb, cond_false, e2]
          have e3 : IntKind.i64.wrap (ow w x + (dbtI k w (kids w.l (nd w.l x).first) (mb.set x.toNat true)).1) = ((kids w.l (nd w.l x).first).foldl (fun (b : Int × List Int) y => (IntKind.i64.wrap (b.1 + (dbtS k w y b.2).1), (dbtS k w y b.2).2)) (ow w x, m ++ [x])).1 := by
            rw [hst.1, hd.1]
          rw [e3, hst.2]
          exact ih _ _ _ (wrap_wrap _) hd.2 fun y hy => ha y (List.mem_cons_of_mem _ hy)
    have := key a 0 mb m (by decide) h ha
    unfold dbtI
    exact this
end Go.Mach.F
namespace Go.Mach.F
open Go Go.Mach Go.Proofs.Try
theorem dbtI_next {k : Nat} {w : Wd} {a : List Int} {m : List Bool} {i : Nat} {x : Int} (hx : a[i]? = some x) : dbtI (k + 1) w (a.take (i + 1)) m = bif bo (dbtI (k + 1) w (a.take i) m).2 x then dbtI (k + 1) w (a.take i) m else
      (IntKind.i64.wrap ((dbtI (k + 1) w (a.take i) m).1 + IntKind.i64.wrap (ow w x + (dbtI k w (kids w.l (nd w.l x).first) ((dbtI (k + 1) w (a.take i) m).2.set x.toNat true)).1)), (dbtI k w (kids w.l (nd w.l x).first) ((dbtI (k + 1) w (a.take i) m).2.set x.toNat true)).2) := by
  have e : a.take (i + 1) = a.take i ++ [x] := by rw [List.take_add_one, hx]; rfl
  rw [e]
  conv => lhs; unfold dbtI
  rw [List.foldl_append]
  rfl
theorem body_dbt (k : Nat) (w : Wd) (a : List Int) (m : List Bool) (h0 : ok_dbt (k + 1) (w, a, m)) : body prog (tabS [(i_iKid, e_iKid), (i_iWst, e_iWst), (i_iStp, e_iStp), (i_dbt, e_dbt k)]) kp_dbt (a.length + 1) F_dbt (ea_dbt (w, a, m)) = some ([oT (.int .i64 (f_dbt (k + 1) (w, a, m)).1)], [nul, nul, oT (eO (f_dbt (k + 1) (w, a, m)).2)]) := by
  have hlm := lm
  obtain ⟨⟨hl, hn⟩, ha, hk, hm, hc⟩ := h0
  dsimp only at hl hn ha hk hm hc
  unfold ea_dbt f_dbt
  dsimp only
  rw [pre_dbt]
  obtain ⟨A, hA⟩ : ∃ A : Nat → Int × List Bool, ∀ i, A i = dbtI (k + 1) w (a.take i) m := ⟨_, fun _ => rfl⟩
  have hAi : ∀ i, BoP w.l.length (m.count false) (A i).2 := fun i => by
    rw [hA]
    exact dbtI_inv w (k + 1) _ m _ (fun y hy => hk y (List.mem_of_mem_take hy)) ⟨hm, Nat.le_refl _⟩
  have hA0 : A 0 = (0, m) := by rw [hA]; rfl
  have hst : st_dbt_1 k w a m 0 0 m.length (atL rowO m) = (fun i : Nat => st_dbt_1 k w a m (A i).1 (i : Nat) (A i).2.length (atL rowO (A i).2)) 0 := by
    simp only [hA0]
    rfl
  rw [hst, forLoop a.length (fun i : Nat => st_dbt_1 k w a m (A i).1 (i : Nat) (A i).2.length (atL rowO (A i).2)) (ex_dbt_1_1 k w a m (A a.length).1 a.length (A a.length).2.length (atL rowO (A a.length).2)) 0 (fun i K hi => ?_) (fun K => ?_) _ (Nat.le_refl _)]
  · rw [post_dbt_1_1, hA, List.take_length]
    rfl
  · have hx := List.getElem?_eq_getElem hi
    obtain ⟨x, hxe⟩ : ∃ x, x = a[i] := ⟨_, rfl⟩
    rw [← hxe] at hx
    have hxk := isK_iff.1 (hk x (List.mem_of_getElem? hx))
    have e0 := hxk.1
    have e1 : x.toNat < w.l.length := by omega
    have hB := hAi i
    have e2 : x.toNat < m.length := by rw [hm]; exact e1
    have e3 : x.toNat < (A i).2.length := by rw [hB.1]; exact e1
    have hb := bo_get e3
    have hy := nd_getk e1
    have hyn := hn _ (nd_in e1)
    have c0 : ok_iWst (nd w.l x, 0) := ⟨hyn.2.2.1, hyn.2.2.2⟩
    have c1 : ok_iStp (w.c, wst (nd w.l x) 0) := ⟨hyn.2.2.1, hyn.2.2.2⟩
    have c2 : ok_iKid (w.l, (nd w.l x).first) := ⟨by dsimp only; omega, hyn.2.1, fun y hy => (hn y hy).1⟩
    have w1 : IntKind.i64.wrap ((i : Int) + 1) = ((i + 1 : Nat) : Int) := wrapS (by omega)
    have hnx := dbtI_next (k := k) (w := w) (m := m) hx
    rw [← hA, ← hA] at hnx
    rw [round_dbt_1, hnx]
    simp (implicitDefEqProofs := false) only [lt_d, ge0_d, Int.toNat_natCast, blt_d, ble_self, beq_self, decide_true, cond_true, Bool.and_self, Bool.and_true, Bool.true_and, gd_true, Nat.zero_add, List.getD_cons_zero, List.getD_cons_succ, isI_int, toI_int, isB_bool, toB_bool, eL_T, arr_ln, arr_fn, arr_wd, arr_is, arr_get, hi, atL_of hx, rowI, e0, e1, e2, e3, atL_of hb, rowO, w1]
    cases hbo : bo (A i).2 x with
    | true =>
      simp (implicitDefEqProofs := false) only [cond_true]
    | false =>
      rw [hbo] at hb
      have hcs := cnt_set hb
      have hB2 : BoP w.l.length (((A i).2.set x.toNat true).count false) ((A i).2.set x.toNat true) := ⟨by rw [List.length_set]; exact hB.1, Nat.le_refl _⟩
      have c3 : ok_dbt k (w, kids w.l (nd w.l x).first, (A i).2.set x.toNat true) := ⟨⟨hl, hn⟩, by have := kidL_len (l := w.l) (f := (nd w.l x).first); dsimp only; omega, kidL_isK, hB2.1, by have := hB.2; dsimp only; omega⟩
      have hd := dbtI_inv w k (kids w.l (nd w.l x).first) _ _ kidL_isK hB2
      have hml : m.length = ((A i).2.set x.toNat true).length := by rw [hB2.1, hm]
      have hml2 : (A i).2.length = ((A i).2.set x.toNat true).length := by rw [hB2.1, hB.1]
      simp (implicitDefEqProofs := false) only [lt_d, ge0_d, Int.toNat_natCast, blt_d, ble_self, beq_self, decide_true, cond_true, Bool.and_self, Bool.and_true, Bool.true_and, gd_true, Nat.zero_add, List.getD_cons_zero, List.getD_cons_succ, isI_int, toI_int, isB_bool, toB_bool, eL_T, arr_ln, arr_fn, arr_wd, arr_is, arr_get, atL_of hy, Nd.cs]
      rw [entK_of (dm_iWst c0) (iv_iWst c0)]
      simp (implicitDefEqProofs := false) only [d_iWst, lt_d, ge0_d, Int.toNat_natCast, blt_d, ble_self, beq_self, decide_true, cond_true, Bool.and_self, Bool.and_true, Bool.true_and, gd_true, Nat.zero_add, List.getD_cons_zero, List.getD_cons_succ, isI_int, toI_int, isB_bool, toB_bool, eL_T, arr_ln, arr_fn, arr_wd, arr_is, arr_get, cut_all, ble_d, Nat.le_refl]
      rw [entK_of (dm_iStp c1) (iv_iStp c1)]
      simp (implicitDefEqProofs := false) only [d_iStp, lt_d, ge0_d, Int.toNat_natCast, blt_d, ble_self, beq_self, decide_true, cond_true, Bool.and_self, Bool.and_true, Bool.true_and, gd_true, Nat.zero_add, List.getD_cons_zero, List.getD_cons_succ, isI_int, toI_int, isB_bool, toB_bool, eL_T, arr_ln, arr_fn, arr_wd, arr_is, arr_get]
      rw [entK_of (dm_iKid c2) (iv_iKid c2)]
      have hb2 := bo_get e3
      simp (implicitDefEqProofs := false) only [d_iKid, lt_d, ge0_d, Int.toNat_natCast, blt_d, ble_self, beq_self, decide_true, cond_true, Bool.and_self, Bool.and_true, Bool.true_and, gd_true, Nat.zero_add, List.getD_cons_zero, List.getD_cons_succ, isI_int, toI_int, isB_bool, toB_bool, eL_T, arr_ln, arr_fn, arr_wd, arr_is, arr_get, cut_all, ble_d, Nat.le_refl, setF_list (row := rowO) (y := true) hb2 rfl (by decide : 0 < 1), hml, hml2]
      rw [entK_of (dm_dbt c3) (iv_dbt c3)]
      have hml3 : ((A i).2.set x.toNat true).length = (dbtI k w (kids w.l (nd w.l x).first) ((A i).2.set x.toNat true)).2.length := by rw [hd.1, hB2.1]
      simp (implicitDefEqProofs := false) only [f_dbt, lt_d, ge0_d, Int.toNat_natCast, blt_d, ble_self, beq_self, decide_true, cond_true, Bool.and_self, Bool.and_true, Bool.true_and, gd_true, Nat.zero_add, List.getD_cons_zero, List.getD_cons_succ, isI_int, toI_int, isB_bool, toB_bool, eL_T, arr_ln, arr_fn, arr_wd, arr_is, arr_get, hml3]
      rfl
  · rw [round_dbt_1]
    simp (implicitDefEqProofs := false) only [lt_d, Nat.lt_irrefl, decide_false, cond_false]
theorem s_dbt : ∀ k, EntOk prog i_dbt (e_dbt k)
  | 0 => ent_ok ea_dbt_inj fun x hx => absurd hx.2.2.2.2 (Nat.not_lt_zero _)
  | k + 1 => ent_ok ea_dbt_inj fun x hx =>
    body_sound (φ := (tabS [(i_iKid, e_iKid), (i_iWst, e_iWst), (i_iStp, e_iStp), (i_dbt, e_dbt k)])) (tabS_cons s_iKid (tabS_cons s_iWst (tabS_cons s_iStp (tabS_cons (s_dbt k) tabS_nil)))) mixed (kp := kp_dbt) (n := x.2.1.length + 1) func161 (c := bodyOf F_dbt) (by kernel_rfl) (body_dbt k x.1 x.2.1 x.2.2 hx) (name_ok (by kernel_rfl))
theorem body_dbs (k : Nat) (w : Wd) (x : Int) (m : List Int) (h0 : ok_dbs (k + 1) (w, x, m)) : body prog (tabS [(i_l1In, e_l1In), (i_l7Has, e_l7Has), (i_sKid, e_sKid), (i_sWst, e_sWst), (i_sStp, e_sStp), (i_dbs, e_dbs k)]) kp_dbs ((kids w.l (nd w.l x).first).length + 1) F_dbs (ea_dbs (w, x, m)) = some ([oT (.int .i64 (f_dbs (k + 1) (w, x, m)).1), oT (eI (f_dbs (k + 1) (w, x, m)).2)], [nul, nul, nul]) := by
  have hlm := lm
  obtain ⟨⟨hl, hn⟩, hm, hk⟩ := h0
  dsimp only at hl hn hm hk
  have hml := hm.len
  have c0 : ok_l7Has (m, x) := by unfold ok_l7Has; dsimp only; omega
  have w0 : IntKind.i64.wrap ((w.l.length : Int) - 1) = (w.l.length : Int) - 1 := by rw [IntKind.wrap_i64]; omega
  have s0 : m.length * 8 ≤ 70368744177664 := by omega
  have s1 : (m.length + 1) * 8 ≤ 70368744177664 := by omega
  have s2 : m.length + 1 ≤ 70368744177664 := by omega
  have s3 : m.length ≤ 70368744177664 := by omega
  unfold ea_dbs f_dbs dbtS isK
  dsimp only
  rw [pre_dbs]
  simp (implicitDefEqProofs := false) only [w0]
  by_cases e0 : 0 ≤ x
  case neg =>
    simp (implicitDefEqProofs := false) only [e0, decide_false, cond_false, Bool.false_and, ble_d, Nat.le_refl, decide_true, Bool.and_true, gd_true]
    rfl
  by_cases e1 : x < (w.l.length : Int)
  case neg =>
    have e2 : ¬ x ≤ (w.l.length : Int) - 1 := by omega
    simp (implicitDefEqProofs := false) only [e0, e1, e2, decide_true, decide_false, cond_true, cond_false, Bool.and_false, Bool.false_and, Bool.not_false, ble_d, Nat.le_refl, Bool.and_true, gd_true]
    rfl
  have e2 : x ≤ (w.l.length : Int) - 1 := by omega
  simp (implicitDefEqProofs := false) only [e0, e1, e2, decide_true, Bool.not_true, cond_true, cond_false, Bool.and_self, Bool.true_and, Nat.zero_add, ble_d, Nat.le_refl, gd_true, cut_all]
  rw [entK_of (dm_l7Has c0) (iv_l7Has c0)]
  simp (implicitDefEqProofs := false) only [d_l7Has]
  cases e3 : has m x with
  | true =>
    simp (implicitDefEqProofs := false) only [Bool.not_true, cond_true, cond_false, decide_true, Bool.and_true, gd_true]
    rfl
  | false =>
    have e4 : x.toNat < w.l.length := by omega
    have hy := nd_getk e4
    have hyn := hn _ (nd_in e4)
    have c1 : ok_sWst (nd w.l x, 0) := ⟨hyn.2.2.1, hyn.2.2.2⟩
    have c2 : ok_sStp (w.c, wst (nd w.l x) 0) := ⟨hyn.2.2.1, hyn.2.2.2⟩
    have c3 : ok_sKid (w.l, (nd w.l x).first) := ⟨by dsimp only; omega, hyn.2.1, fun y hy => (hn y hy).1⟩
    have hxk : isK w.l x = true := isK_iff.2 ⟨e0, e1⟩
    simp (implicitDefEqProofs := false) only [Bool.not_false, lt_d, ge0_d, Int.toNat_natCast, blt_d, ble_self, beq_self, decide_true, cond_true, Bool.and_self, Bool.and_true, Bool.true_and, gd_true, Nat.zero_add, List.getD_cons_zero, List.getD_cons_succ, isI_int, toI_int, isB_bool, toB_bool, eL_T, arr_ln, arr_fn, arr_wd, arr_is, arr_get, e0, e4, s0, s1, s2, s3, ble_d, Nat.le_refl, cond_false, atL_of hy, Nd.cs]
    rw [entK_of (dm_sWst c1) (iv_sWst c1)]
    simp (implicitDefEqProofs := false) only [d_sWst, lt_d, ge0_d, Int.toNat_natCast, blt_d, ble_self, beq_self, decide_true, cond_true, Bool.and_self, Bool.and_true, Bool.true_and, gd_true, Nat.zero_add, List.getD_cons_zero, List.getD_cons_succ, isI_int, toI_int, isB_bool, toB_bool, eL_T, arr_ln, arr_fn, arr_wd, arr_is, arr_get, cut_all, ble_d, Nat.le_refl]
    rw [entK_of (dm_sStp c2) (iv_sStp c2)]
    simp (implicitDefEqProofs := false) only [d_sStp, lt_d, ge0_d, Int.toNat_natCast, blt_d, ble_self, beq_self, decide_true, cond_true, Bool.and_self, Bool.and_true, Bool.true_and, gd_true, Nat.zero_add, List.getD_cons_zero, List.getD_cons_succ, isI_int, toI_int, isB_bool, toB_bool, eL_T, arr_ln, arr_fn, arr_wd, arr_is, arr_get]
    rw [entK_of (dm_sKid c3) (iv_sKid c3)]
    simp (implicitDefEqProofs := false) only [d_sKid, lt_d, ge0_d, Int.toNat_natCast, blt_d, ble_self, beq_self, decide_true, cond_true, Bool.and_self, Bool.and_true, Bool.true_and, gd_true, Nat.zero_add, List.getD_cons_zero, List.getD_cons_succ, isI_int, toI_int, isB_bool, toB_bool, eL_T, arr_ln, arr_fn, arr_wd, arr_is, arr_get, cut_all, ble_d, Nat.le_refl, plain_I, plain1, app0, appF_app]
    obtain ⟨q, hq⟩ : ∃ q, q = kids w.l (nd w.l x).first := ⟨_, rfl⟩
    have hql : q.length ≤ w.l.length := by rw [hq]; exact kidL_len
    rw [← hq, show IntKind.i64.wrap (1 + stp w.c (wst (nd w.l x) 0)) = ow w x from rfl]
    obtain ⟨F, hF⟩ : ∃ F : Int × List Int → Int → Int × List Int, F = fun b y => (IntKind.i64.wrap (b.1 + (dbtS k w y b.2).1), (dbtS k w y b.2).2) := ⟨_, rfl⟩
    rw [← hF]
    obtain ⟨A, hA⟩ : ∃ A : Nat → Int × List Int, ∀ i, A i = (q.take i).foldl F (ow w x, m ++ [x]) := ⟨_, fun _ => rfl⟩
    have hAi : ∀ i, MeP w.l (m.length + 1) (A i).2 := fun i => by
      rw [hA, hF]
      exact fold_inv2 (fun b : Int × List Int => MeP w.l (m.length + 1) b.2) _ _ _ ⟨hm.add hxk e3, by simp⟩ fun b y hy hb => dbtS_inv w k y b.2 _ hb
    have hA0 : A 0 = (ow w x, m ++ [x]) := by rw [hA]; rfl
    have hst : st_dbs_1 k w x m q (m.length + 1) (atL rowI (m ++ [x])) (ow w x) 0 = (fun i : Nat => st_dbs_1 k w x m q (A i).2.length (atL rowI (A i).2) (A i).1 (i : Nat)) 0 := by
      simp only [hA0, List.length_append, List.length_singleton]
      rfl
    rw [hst, forLoop q.length (fun i : Nat => st_dbs_1 k w x m q (A i).2.length (atL rowI (A i).2) (A i).1 (i : Nat)) (ex_dbs_1_1 k w x m q (A q.length).2.length (atL rowI (A q.length).2) (A q.length).1 q.length) 0 (fun i K hi => ?_) (fun K => ?_) _ (Nat.le_refl _)]
    · rw [post_dbs_1_1, hA, List.take_length]
      simp (implicitDefEqProofs := false) only [ble_d, Nat.le_refl, decide_true, Bool.and_true, gd_true]
      rfl
    · have hx := List.getElem?_eq_getElem hi
      obtain ⟨y, hye⟩ : ∃ y, y = q[i] := ⟨_, rfl⟩
      rw [← hye] at hx
      have hB := hAi i
      have w1 : IntKind.i64.wrap ((i : Int) + 1) = ((i + 1 : Nat) : Int) := wrapS (by omega)
      have hnx : A (i + 1) = F (A i) y := by
        rw [hA, hA, List.take_add_one, hx, List.foldl_append]
        rfl
      have c4 : ok_dbs k (w, y, (A i).2) := ⟨⟨hl, hn⟩, hB.1, by have := hB.2; dsimp only; omega⟩
      rw [round_dbs_1, hnx, hF]
      simp (implicitDefEqProofs := false) only [lt_d, ge0_d, Int.toNat_natCast, blt_d, ble_self, beq_self, decide_true, cond_true, Bool.and_self, Bool.and_true, Bool.true_and, gd_true, Nat.zero_add, List.getD_cons_zero, List.getD_cons_succ, isI_int, toI_int, isB_bool, toB_bool, eL_T, arr_ln, arr_fn, arr_wd, arr_is, arr_get, hi, atL_of hx, rowI, ble_d, Nat.le_refl, w1]
      rw [entK_of (dm_dbs c4) (iv_dbs c4)]
      simp (implicitDefEqProofs := false) only [f_dbs, lt_d, ge0_d, Int.toNat_natCast, blt_d, ble_self, beq_self, decide_true, cond_true, Bool.and_self, Bool.and_true, Bool.true_and, gd_true, Nat.zero_add, List.getD_cons_zero, List.getD_cons_succ, isI_int, toI_int, isB_bool, toB_bool, eL_T, arr_ln, arr_fn, arr_wd, arr_is, arr_get, ble_d, Nat.le_refl]
    · rw [round_dbs_1]
      simp (implicitDefEqProofs := false) only [lt_d, Nat.lt_irrefl, decide_false, cond_false]
theorem s_dbs : ∀ k, EntOk prog i_dbs (e_dbs k)
  | 0 => ent_ok ea_dbs_inj fun x hx => by
    have h1 := hx.2.1.len
    have h2 := hx.2.2
    omega
  | k + 1 => ent_ok ea_dbs_inj fun x hx =>
    body_sound (φ := (tabS [(i_l1In, e_l1In), (i_l7Has, e_l7Has), (i_sKid, e_sKid), (i_sWst, e_sWst), (i_sStp, e_sStp), (i_dbs, e_dbs k)])) (tabS_cons s_l1In (tabS_cons s_l7Has (tabS_cons s_sKid (tabS_cons s_sWst (tabS_cons s_sStp (tabS_cons (s_dbs k) tabS_nil)))))) mixed (kp := kp_dbs) (n := (kids x.1.l (nd x.1.l x.2.1).first).length + 1) func158 (c := bodyOf F_dbs) (by kernel_rfl) (body_dbs k x.1 x.2.1 x.2.2 hx) (name_ok (by kernel_rfl))
end Go.Mach.F
