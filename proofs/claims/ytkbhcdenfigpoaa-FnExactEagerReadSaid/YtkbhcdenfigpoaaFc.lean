/- Rooms: the laws' copies, comparisons, marks and sizes. Conditions: none. -/
import Derived.Test.YtkbhcdenfigpoaaFb
set_option linter.all false
namespace Go.Mach.F
open Go Go.Mach Go.Proofs.Try
--=set_option maxRecDepth 100000
theorem Rm.cs_inj (x y : Rm) (h : ∀ k, x.cs.getD k .hole = y.cs.getD k .hole) : x = y := by
  have h0 := h 0; have h1 := h 1; have h2 := h 2; have h3 := h 3; have h4 := h 4; have h5 := h 5; have h6 := h 6; have h7 := h 7; have h8 := h 8; have h9 := h 9; have h10 := h 10
  rcases x with ⟨⟨x0, x1⟩, ⟨x2, x3⟩, x4, x5, x6, x7, x8, x9, x10⟩
  rcases y with ⟨⟨y0, y1⟩, ⟨y2, y3⟩, y4, y5, y6, y7, y8, y9, y10⟩
  simp only [Rm.cs, List.getD_cons_zero, List.getD_cons_succ, T.int.injEq, T.bool.injEq, true_and] at h0 h1 h2 h3 h4 h5 h6 h7 h8 h9 h10
  replace h4 := eL_inj Hd.cs_inj h4
  replace h9 := eL_inj Sf.cs_inj h9
  replace h10 := eI_inj h10
  subst h0; subst h1; subst h2; subst h3; subst h4; subst h5; subst h6; subst h7; subst h8; subst h9; subst h10
  rfl
def i_toRm : Nat := 145
noncomputable abbrev F_toRm : Func := f145
def kp_toRm : List (Nat × List Nat) := [(0, [4, 5, 8, 9, 12, 13, 144]), (1, [4, 5, 8, 9, 12, 13, 144]), (2, [4, 5, 8, 9, 12, 13, 144]), (3, [4, 5, 8, 9, 12, 13, 144]), (4, [4, 5, 8, 9, 12, 13, 144]), (5, [4, 5, 8, 9, 12, 13, 144]), (6, [4, 5, 8, 9, 12, 13, 144]), (7, [4, 5, 8, 9, 12, 13, 144]), (8, [4, 5, 8, 9, 12, 13, 144]), (9, [4, 5, 8, 9, 12, 13, 144]), (10, [8, 9, 12, 13, 144]), (11, [8, 9, 12, 13, 144])]
noncomputable def e_toRm : Ent := inl [] prog (tabS [(i_toHd, e_toHd), (i_toHdS, e_toHdS), (i_toSfS, e_toSfS), (i_toLI, e_toLI)]) kp_toRm 0 F_toRm
theorem s_toRm : EntOk prog i_toRm e_toRm := inl_ok (tabS_cons s_toHd (tabS_cons s_toHdS (tabS_cons s_toSfS (tabS_cons s_toLI tabS_nil)))) mixed (c := bodyOf F_toRm) func145 (by kernel_rfl) (name_ok (by kernel_rfl))
def i_eqRm : Nat := 35
noncomputable abbrev F_eqRm : Func := f35
def kp_eqRm : List (Nat × List Nat) := [(0, [8, 9, 12, 13]), (1, [8, 9, 12, 13, 40]), (2, [16]), (3, [8, 9, 12, 13, 64]), (4, [16]), (5, [8, 9, 12, 13, 88]), (6, [16]), (7, [8, 9, 12, 13, 108]), (8, [16]), (9, [8, 9, 12, 13, 128]), (10, [16]), (11, [8, 9, 12, 13, 148]), (12, [16]), (13, [8, 9, 12, 13, 168]), (14, [16]), (15, [8, 9, 12, 13, 192]), (16, [16]), (17, [216]), (18, [16]), (19, [16])]
noncomputable def e_eqRm : Ent := inl [] prog (tabS [(i_eqHd, e_eqHd), (i_eqHdS, e_eqHdS), (i_eqSfS, e_eqSfS), (i_eqLI, e_eqLI)]) kp_eqRm 0 F_eqRm
theorem s_eqRm : EntOk prog i_eqRm e_eqRm := inl_ok (tabS_cons s_eqHd (tabS_cons s_eqHdS (tabS_cons s_eqSfS (tabS_cons s_eqLI tabS_nil)))) mixed (c := bodyOf F_eqRm) func35 (by kernel_rfl) (name_ok (by kernel_rfl))
def i_szRm : Nat := 142
noncomputable abbrev F_szRm : Func := f142
def kp_szRm : List (Nat × List Nat) := [(0, [4, 8, 9]), (1, [4, 8, 9]), (2, [4, 8, 9, 40]), (3, [16]), (4, [4, 8, 9]), (5, [4, 8, 9, 64]), (6, [16]), (7, [4]), (8, [4, 88]), (9, [16]), (10, [16])]
noncomputable def e_szRm : Ent := inl [] prog (tabS [(i_szHdS, e_szHdS), (i_szSfS, e_szSfS), (i_szLI, e_szLI)]) kp_szRm 0 F_szRm
theorem s_szRm : EntOk prog i_szRm e_szRm := inl_ok (tabS_cons s_szHdS (tabS_cons s_szSfS (tabS_cons s_szLI tabS_nil))) mixed (c := bodyOf F_szRm) func142 (by kernel_rfl) (name_ok (by kernel_rfl))
def ok_RmS (l : List Rm) : Prop := l.length ≤ LM ∧ ∀ x ∈ l, ok_HdS x.kids ∧ ok_SfS x.things ∧ ok_LI x.tags
def ea_RmS (l : List Rm) : List Arg := [aT (eL 11 Rm.cs l)]
noncomputable def e_toRmS : Ent := ent [] ok_RmS ea_RmS (fun l => erT 1 (eL 11 Rm.cs l)) fun l => l
def okq_RmS (l : List Rm) : Prop := l.length ≤ BM ∧ ∀ x ∈ l, okq_HdS x.kids ∧ okq_SfS x.things ∧ okq_LI x.tags
def ok2_RmS (x : List Rm × List Rm) : Prop := okq_RmS x.1
def ea2_RmS (x : List Rm × List Rm) : List Arg := [aT (eL 11 Rm.cs x.1), aT (eL 11 Rm.cs x.2)]
def f_eqRmS (x : List Rm × List Rm) : Bool := decide (x.1 = x.2)
noncomputable def e_eqRmS : Ent := ent [] ok2_RmS ea2_RmS (erB 2) f_eqRmS
theorem ea_RmS_inj (x y : List Rm) (h : ea_RmS x = ea_RmS y) : x = y := by
  simp only [ea_RmS, aT, List.cons.injEq, Prod.mk.injEq, true_and, and_true, C.tr.injEq] at h
  exact eL_inj Rm.cs_inj h
theorem ea2_RmS_inj (x y : List Rm × List Rm) (h : ea2_RmS x = ea2_RmS y) : x = y := by
  simp only [ea2_RmS, aT, List.cons.injEq, Prod.mk.injEq, true_and, and_true, C.tr.injEq] at h
  exact Prod.ext (eL_inj Rm.cs_inj h.1) (eL_inj Rm.cs_inj h.2)
def i_toRmS : Nat := 76
noncomputable abbrev F_toRmS : Func := f76
def kp_toRmS : List (Nat × List Nat) := [(0, [0]), (1, [0, 12]), (2, [0, 12, 16]), (3, [0, 12, 16, 44]), (4, [0, 12, 16]), (5, [0, 12, 16]), (6, [8])]
def ts_toRmS : List Nat := [0]
def st_toRmS_1 (l : List Rm) (nx12 : Nat) (fx12 : Nat → Nat → T) (x16 : Int) : St := [(0, ⟨z0, [(false, [.tr false (eL 11 Rm.cs l)])]⟩), (12, ⟨z0, [(false, [.tr true (.arr (11) (nx12) (fx12))])]⟩), (16, ⟨z0, [(false, [.tr true (T.int IntKind.i64 x16)])]⟩)]
def ex_toRmS_1_1 (l : List Rm) (nx12 : Nat) (fx12 : Nat → Nat → T) (x16 : Int) : St := [(0, ⟨z0, [(false, [.tr false (eL 11 Rm.cs l)])]⟩), (12, ⟨z0, [(false, [.tr true (.arr (11) (nx12) (fx12))])]⟩), (16, ⟨z0, [(false, [.tr true (T.int IntKind.i64 x16)])]⟩), (44, ⟨z0, []⟩)]
theorem round_toRmS_1 (l : List Rm) (nx12 : Nat) (fx12 : Nat → Nat → T) (x16 : Int) (n : Nat) (K : Ex → St → Res) : roundAt prog (tabS [(i_toRm, e_toRm)]) kp_toRmS F_toRmS [1, 1, 0, 1, 0] n (st_toRmS_1 l nx12 fx12 x16) K = (
 bif decide (x16 < (↑l.length : Int)) then
  gd (decide (0 ≤ x16) && (x16.toNat.blt l.length && true)) <|
  gd (T.isI IntKind.i64 (atL Rm.cs l x16.toNat 0) && T.isI IntKind.i64 (atL Rm.cs l x16.toNat 1) &&
                  T.isI IntKind.i64 (atL Rm.cs l x16.toNat 2) &&
                T.isI IntKind.i64 (atL Rm.cs l x16.toNat 3) &&
              ((atL Rm.cs l x16.toNat 4).isArr && (atL Rm.cs l x16.toNat 4).wd.beq 2) &&
            T.isI IntKind.i64 (atL Rm.cs l x16.toNat 5) &&
          T.isI IntKind.i64 (atL Rm.cs l x16.toNat 6) &&
        (atL Rm.cs l x16.toNat 7).isB &&
      T.isI IntKind.i64 (atL Rm.cs l x16.toNat 8) &&
    ((atL Rm.cs l x16.toNat 9).isArr && (atL Rm.cs l x16.toNat 9).wd.beq 1) &&
  ((atL Rm.cs l x16.toNat 10).isArr && (atL Rm.cs l x16.toNat 10).wd.beq 1)) <|
  gd (dom ok_HdS ea_HdS [(0, false, [C.tr false (T.arr 2 (atL Rm.cs l x16.toNat 4).ln (atL Rm.cs l x16.toNat 4).fn)])]) <|
  gd ((inv ok_HdS ea_HdS
          [(0, false, [C.tr false (T.arr 2 (atL Rm.cs l x16.toNat 4).ln (atL Rm.cs l x16.toNat 4).fn)])]).length.ble
    (inv ok_HdS ea_HdS
        [(0, false, [C.tr false (T.arr 2 (atL Rm.cs l x16.toNat 4).ln (atL Rm.cs l x16.toNat 4).fn)])]).length &&
  true) <|
  gd (dom ok_SfS ea_SfS [(0, false, [C.tr false (T.arr 1 (atL Rm.cs l x16.toNat 9).ln (atL Rm.cs l x16.toNat 9).fn)])]) <|
  gd ((inv ok_SfS ea_SfS
          [(0, false, [C.tr false (T.arr 1 (atL Rm.cs l x16.toNat 9).ln (atL Rm.cs l x16.toNat 9).fn)])]).length.ble
    (inv ok_SfS ea_SfS
        [(0, false, [C.tr false (T.arr 1 (atL Rm.cs l x16.toNat 9).ln (atL Rm.cs l x16.toNat 9).fn)])]).length &&
  true) <|
  gd (dom ok_LI ea_LI [(0, false, [C.tr false (T.arr 1 (atL Rm.cs l x16.toNat 10).ln (atL Rm.cs l x16.toNat 10).fn)])]) <|
  gd ((inv ok_LI ea_LI
          [(0, false, [C.tr false (T.arr 1 (atL Rm.cs l x16.toNat 10).ln (atL Rm.cs l x16.toNat 10).fn)])]).length.ble
    (inv ok_LI ea_LI
        [(0, false, [C.tr false (T.arr 1 (atL Rm.cs l x16.toNat 10).ln (atL Rm.cs l x16.toNat 10).fn)])]).length &&
  true) <|
  gd ((inv ok_HdS ea_HdS
          [(0, false, [C.tr false (T.arr 2 (atL Rm.cs l x16.toNat 4).ln (atL Rm.cs l x16.toNat 4).fn)])]).length.ble
    (inv ok_HdS ea_HdS
        [(0, false, [C.tr false (T.arr 2 (atL Rm.cs l x16.toNat 4).ln (atL Rm.cs l x16.toNat 4).fn)])]).length &&
  true) <|
  gd ((inv ok_SfS ea_SfS
          [(0, false, [C.tr false (T.arr 1 (atL Rm.cs l x16.toNat 9).ln (atL Rm.cs l x16.toNat 9).fn)])]).length.ble
    (inv ok_SfS ea_SfS
        [(0, false, [C.tr false (T.arr 1 (atL Rm.cs l x16.toNat 9).ln (atL Rm.cs l x16.toNat 9).fn)])]).length &&
  true) <|
  gd ((inv ok_LI ea_LI
          [(0, false, [C.tr false (T.arr 1 (atL Rm.cs l x16.toNat 10).ln (atL Rm.cs l x16.toNat 10).fn)])]).length.ble
    (inv ok_LI ea_LI
        [(0, false, [C.tr false (T.arr 1 (atL Rm.cs l x16.toNat 10).ln (atL Rm.cs l x16.toNat 10).fn)])]).length &&
  true) <|
  gd ((inv ok_HdS ea_HdS
          [(0, false, [C.tr false (T.arr 2 (atL Rm.cs l x16.toNat 4).ln (atL Rm.cs l x16.toNat 4).fn)])]).length.ble
    (inv ok_HdS ea_HdS
        [(0, false, [C.tr false (T.arr 2 (atL Rm.cs l x16.toNat 4).ln (atL Rm.cs l x16.toNat 4).fn)])]).length &&
  true) <|
  gd ((inv ok_SfS ea_SfS
          [(0, false, [C.tr false (T.arr 1 (atL Rm.cs l x16.toNat 9).ln (atL Rm.cs l x16.toNat 9).fn)])]).length.ble
    (inv ok_SfS ea_SfS
        [(0, false, [C.tr false (T.arr 1 (atL Rm.cs l x16.toNat 9).ln (atL Rm.cs l x16.toNat 9).fn)])]).length &&
  true) <|
  gd ((inv ok_LI ea_LI
          [(0, false, [C.tr false (T.arr 1 (atL Rm.cs l x16.toNat 10).ln (atL Rm.cs l x16.toNat 10).fn)])]).length.ble
    (inv ok_LI ea_LI
        [(0, false, [C.tr false (T.arr 1 (atL Rm.cs l x16.toNat 10).ln (atL Rm.cs l x16.toNat 10).fn)])]).length &&
  true) <|
  gd (decide (0 ≤ x16) && (x16.toNat.blt nx12 && true)) <|
  gd ((inv ok_HdS ea_HdS
          [(0, false, [C.tr false (T.arr 2 (atL Rm.cs l x16.toNat 4).ln (atL Rm.cs l x16.toNat 4).fn)])]).length.ble
    (inv ok_HdS ea_HdS
        [(0, false, [C.tr false (T.arr 2 (atL Rm.cs l x16.toNat 4).ln (atL Rm.cs l x16.toNat 4).fn)])]).length &&
  true) <|
  gd ((inv ok_SfS ea_SfS
          [(0, false, [C.tr false (T.arr 1 (atL Rm.cs l x16.toNat 9).ln (atL Rm.cs l x16.toNat 9).fn)])]).length.ble
    (inv ok_SfS ea_SfS
        [(0, false, [C.tr false (T.arr 1 (atL Rm.cs l x16.toNat 9).ln (atL Rm.cs l x16.toNat 9).fn)])]).length &&
  true) <|
  gd ((inv ok_LI ea_LI
          [(0, false, [C.tr false (T.arr 1 (atL Rm.cs l x16.toNat 10).ln (atL Rm.cs l x16.toNat 10).fn)])]).length.ble
    (inv ok_LI ea_LI
        [(0, false, [C.tr false (T.arr 1 (atL Rm.cs l x16.toNat 10).ln (atL Rm.cs l x16.toNat 10).fn)])]).length &&
  true) <|
  gd ((0 + x16.toNat).blt nx12 && true && true) <|
  gd ((0 + x16.toNat).blt nx12 && true && true) <|
  gd ((0 + x16.toNat).blt nx12 && true && true) <|
  gd ((0 + x16.toNat).blt nx12 && true && true) <|
  gd ((0 + x16.toNat).blt nx12 && true && true) <|
  gd ((0 + x16.toNat).blt nx12 && true && true) <|
  gd ((0 + x16.toNat).blt nx12 && true && true) <|
  gd ((0 + x16.toNat).blt nx12 && true && true) <|
  gd ((0 + x16.toNat).blt nx12 && true && true) <|
  gd ((0 + x16.toNat).blt nx12 && true && true) <|
  gd ((0 + x16.toNat).blt nx12 && true && true) <|
  K .normal (st_toRmS_1 l (nx12) (setF (0 + x16.toNat) (1 + 1 + 1 + 1 + 1 + 1 + 1 + 1 + 1 + 1)
  (T.arr 1
    (inv ok_LI ea_LI
        [(0, false, [C.tr false (T.arr 1 (atL Rm.cs l x16.toNat 10).ln (atL Rm.cs l x16.toNat 10).fn)])]).length
    (atL rowI
      (inv ok_LI ea_LI
        [(0, false, [C.tr false (T.arr 1 (atL Rm.cs l x16.toNat 10).ln (atL Rm.cs l x16.toNat 10).fn)])])))
  (setF (0 + x16.toNat) (1 + 1 + 1 + 1 + 1 + 1 + 1 + 1 + 1)
    (T.arr 1
      (inv ok_SfS ea_SfS
          [(0, false, [C.tr false (T.arr 1 (atL Rm.cs l x16.toNat 9).ln (atL Rm.cs l x16.toNat 9).fn)])]).length
      (eL 1 Sf.cs
          (inv ok_SfS ea_SfS
            [(0, false, [C.tr false (T.arr 1 (atL Rm.cs l x16.toNat 9).ln (atL Rm.cs l x16.toNat 9).fn)])])).fn)
    (setF (0 + x16.toNat) (1 + 1 + 1 + 1 + 1 + 1 + 1 + 1) (T.int IntKind.i64 (atL Rm.cs l x16.toNat 8).toI)
      (setF (0 + x16.toNat) (1 + 1 + 1 + 1 + 1 + 1 + 1) (T.bool (atL Rm.cs l x16.toNat 7).toB)
        (setF (0 + x16.toNat) (1 + 1 + 1 + 1 + 1 + 1) (T.int IntKind.i64 (atL Rm.cs l x16.toNat 6).toI)
          (setF (0 + x16.toNat) (1 + 1 + 1 + 1 + 1) (T.int IntKind.i64 (atL Rm.cs l x16.toNat 5).toI)
            (setF (0 + x16.toNat) (1 + 1 + 1 + 1)
              (T.arr 2
                (inv ok_HdS ea_HdS
                    [(0, false,
                        [C.tr false (T.arr 2 (atL Rm.cs l x16.toNat 4).ln (atL Rm.cs l x16.toNat 4).fn)])]).length
                (eL 2 Hd.cs
                    (inv ok_HdS ea_HdS
                      [(0, false,
                          [C.tr false (T.arr 2 (atL Rm.cs l x16.toNat 4).ln (atL Rm.cs l x16.toNat 4).fn)])])).fn)
              (setF (0 + x16.toNat) (1 + 1 + 1) (T.int IntKind.i64 (atL Rm.cs l x16.toNat 3).toI)
                (setF (0 + x16.toNat) (1 + 1) (T.int IntKind.i64 (atL Rm.cs l x16.toNat 2).toI)
                  (setF (0 + x16.toNat) 1 (T.int IntKind.i64 (atL Rm.cs l x16.toNat 1).toI)
                    (setF (0 + x16.toNat) 0 (T.int IntKind.i64 (atL Rm.cs l x16.toNat 0).toI) fx12))))))))))) (IntKind.i64.wrap (x16 + 1)))
 else
 K (.exit 0) (ex_toRmS_1_1 l nx12 fx12 x16)) := by kernel_rfl
theorem post_toRmS_1_1 (l : List Rm) (nx12 : Nat) (fx12 : Nat → Nat → T) (x16 : Int) (n : Nat) : contAt prog (tabS [(i_toRm, e_toRm)]) kp_toRmS F_toRmS ts_toRmS [1, 1, 0, 1, 0] [] n (.exit 0) (ex_toRmS_1_1 l nx12 fx12 x16) = (
 gd (nx12.ble nx12 && true) <|
 gd (nx12.ble nx12 && true) <|
 some ([(false, [.tr true (.arr (11) (nx12) (fx12))])], [(false, [])])) := by kernel_rfl
theorem pre_toRmS (l : List Rm) (n : Nat) : body prog (tabS [(i_toRm, e_toRm)]) kp_toRmS n F_toRmS [aT (eL 11 Rm.cs l)] = (
 gd (decide (0 ≤ (↑l.length : Int)) &&
  (decide ((↑l.length : Int) ≤ (↑l.length : Int)) &&
    (((↑l.length : Int).toNat * 136).ble 70368744177664 && (↑l.length : Int).toNat.ble 70368744177664))) <|
 gd ((↑l.length : Int).toNat.ble (↑l.length : Int).toNat && true) <|
 loopAt prog (tabS [(i_toRm, e_toRm)]) kp_toRmS F_toRmS [1, 1, 0, 1, 0] n n (st_toRmS_1 l ((↑l.length : Int).toNat) (cutT 0 (↑l.length : Int).toNat (zeroT prog 71)) (0)) (contAt prog (tabS [(i_toRm, e_toRm)]) kp_toRmS F_toRmS ts_toRmS [1, 1, 0, 1, 0] [] n)) := by kernel_rfl
theorem body_toRmS (l : List Rm) (hl : ok_RmS l) : body prog (tabS [(i_toRm, e_toRm)]) kp_toRmS (l.length + 1) F_toRmS (ea_RmS l) = some (erT 1 (eL 11 Rm.cs l)) := by
  have hl' : l.length ≤ LM := hl.1
  have hlm := lm
  unfold ea_RmS
  rw [pre_toRmS]
  simp only [ge0_d, Int.toNat_natCast, ble_d, Int.le_refl, Nat.le_refl, decide_true, Bool.and_true, Bool.true_and, gd_true]
  rw [decide_eq_true (show l.length * 136 ≤ 70368744177664 by omega), decide_eq_true (show l.length ≤ 70368744177664 by omega)]
  simp only [Bool.and_true, gd_true]
  rw [zero_fill (m := 11) (row := Rm.cs) (d := default) l.length (fun j k => by rcases k with _ | _ | _ | _ | _ | _ | _ | _ | _ | _ | _ | _ <;> kernel_rfl), ← fill_zero l default]
  have hst : st_toRmS_1 l l.length (atL Rm.cs (fill l default 0)) 0 = (fun i : Nat => st_toRmS_1 l l.length (atL Rm.cs (fill l default i)) (i : Nat)) 0 := rfl
  rw [hst, forLoop l.length (fun i : Nat => st_toRmS_1 l l.length (atL Rm.cs (fill l default i)) (i : Nat)) (ex_toRmS_1_1 l l.length (atL Rm.cs l) l.length) 0 (fun i K hi => ?_) (fun K => ?_) _ (Nat.le_refl _)]
  · rw [post_toRmS_1_1]
    simp only [ble_d, Nat.le_refl, decide_true, gd_true, Bool.and_true]
    rfl
  · have hx := List.getElem?_eq_getElem hi
    have h0 := (hl.2 _ (List.getElem_mem hi)).1
    have h1 := (hl.2 _ (List.getElem_mem hi)).2.1
    have h2 := (hl.2 _ (List.getElem_mem hi)).2.2
    have hd : (fill l default i)[i]? = some default := by
      unfold fill
      rw [List.getElem?_append_right (by simp; omega), List.getElem?_replicate, if_pos (by simp; omega)]
    rw [round_toRmS_1]
    simp only [lt_d, ge0_d, Int.toNat_natCast, blt_d, ble_self, beq_self, decide_true, cond_true, Bool.and_self, Bool.and_true, Bool.true_and, gd_true, Nat.zero_add, List.getD_cons_zero, List.getD_cons_succ, isI_int, toI_int, isB_bool, toB_bool, eL_T, arr_ln, arr_fn, arr_wd, arr_is, arr_get, hi, atL_of hx, Rm.cs, dm_toHdS h0, iv_toHdS h0, dm_toSfS h1, iv_toSfS h1, dm_toLI h2, iv_toLI h2]
    rw [wrapS (by omega), ← fill_set l default hx]
    congr 3
    refine set_atL (by rw [fill_len l default (by omega)]; exact hi) fun j' k' => ?_
    by_cases e : j' = i
    · subst e
      rcases k' with _ | _ | _ | _ | _ | _ | _ | _ | _ | _ | _ | k' <;> simp [setF_d, Rm.cs, atL_of hd, eL_T]
    · simp [setF_d, e]
  · rw [round_toRmS_1, fill_all]
    simp only [lt_d, Nat.lt_irrefl, decide_false, cond_false]
theorem s_toRmS : EntOk prog i_toRmS e_toRmS := ent_ok ea_RmS_inj fun l hl =>
  body_sound (φ := (tabS [(i_toRm, e_toRm)])) (tabS_cons s_toRm tabS_nil) mixed (kp := kp_toRmS) (n := l.length + 1) func76 (c := bodyOf F_toRmS) (by kernel_rfl) (body_toRmS l hl) (name_ok (by kernel_rfl))

def i_eqRmS : Nat := 79
noncomputable abbrev F_eqRmS : Func := f79
def kp_eqRmS : List (Nat × List Nat) := [(0, [0, 4]), (1, [0, 4, 40]), (2, [16]), (3, [0, 4, 20]), (4, [0, 4, 20, 56]), (5, [0, 4, 20]), (6, [0, 4, 20, 104]), (7, [16]), (8, [16])]
def ts_eqRmS : List Nat := [0, 0]
def st_eqRmS_1 (l r : List Rm) (x20 : Int) : St := [(0, ⟨z0, [(false, [.tr false (eL 11 Rm.cs l)])]⟩), (4, ⟨z0, [(false, [.tr false (eL 11 Rm.cs r)])]⟩), (20, ⟨z0, [(false, [.tr true (T.int IntKind.i64 x20)])]⟩)]
def ex_eqRmS_1_1 (l r : List Rm) (x20 : Int) : St := [(16, ⟨z0, [(false, [.tr true (T.bool false)])]⟩)]
def ex_eqRmS_1_2 (l r : List Rm) (x20 : Int) : St := [(0, ⟨z0, [(false, [.tr false (eL 11 Rm.cs l)])]⟩), (4, ⟨z0, [(false, [.tr false (eL 11 Rm.cs r)])]⟩), (20, ⟨z0, [(false, [.tr true (T.int IntKind.i64 x20)])]⟩), (56, ⟨z0, []⟩)]
theorem round_eqRmS_1 (l r : List Rm) (x20 : Int) (n : Nat) (K : Ex → St → Res) : roundAt prog (tabS [(i_eqRm, e_eqRm)]) kp_eqRmS F_eqRmS [1, 1, 0, 1, 0] n (st_eqRmS_1 l r x20) K = (
 bif decide (x20 < (↑l.length : Int)) then
  gd (decide (0 ≤ x20) && (x20.toNat.blt l.length && true)) <|
  gd (T.isI IntKind.i64 (atL Rm.cs l x20.toNat 0) && T.isI IntKind.i64 (atL Rm.cs l x20.toNat 1) &&
                  T.isI IntKind.i64 (atL Rm.cs l x20.toNat 2) &&
                T.isI IntKind.i64 (atL Rm.cs l x20.toNat 3) &&
              ((atL Rm.cs l x20.toNat 4).isArr && (atL Rm.cs l x20.toNat 4).wd.beq 2) &&
            T.isI IntKind.i64 (atL Rm.cs l x20.toNat 5) &&
          T.isI IntKind.i64 (atL Rm.cs l x20.toNat 6) &&
        (atL Rm.cs l x20.toNat 7).isB &&
      T.isI IntKind.i64 (atL Rm.cs l x20.toNat 8) &&
    ((atL Rm.cs l x20.toNat 9).isArr && (atL Rm.cs l x20.toNat 9).wd.beq 1) &&
  ((atL Rm.cs l x20.toNat 10).isArr && (atL Rm.cs l x20.toNat 10).wd.beq 1)) <|
  gd (decide (0 ≤ x20) && (x20.toNat.blt r.length && true)) <|
  gd (T.isI IntKind.i64 (atL Rm.cs r x20.toNat 0) && T.isI IntKind.i64 (atL Rm.cs r x20.toNat 1) &&
                  T.isI IntKind.i64 (atL Rm.cs r x20.toNat 2) &&
                T.isI IntKind.i64 (atL Rm.cs r x20.toNat 3) &&
              ((atL Rm.cs r x20.toNat 4).isArr && (atL Rm.cs r x20.toNat 4).wd.beq 2) &&
            T.isI IntKind.i64 (atL Rm.cs r x20.toNat 5) &&
          T.isI IntKind.i64 (atL Rm.cs r x20.toNat 6) &&
        (atL Rm.cs r x20.toNat 7).isB &&
      T.isI IntKind.i64 (atL Rm.cs r x20.toNat 8) &&
    ((atL Rm.cs r x20.toNat 9).isArr && (atL Rm.cs r x20.toNat 9).wd.beq 1) &&
  ((atL Rm.cs r x20.toNat 10).isArr && (atL Rm.cs r x20.toNat 10).wd.beq 1)) <|
  bif (atL Rm.cs l x20.toNat 0).toI != (atL Rm.cs r x20.toNat 0).toI then
   K .ret (ex_eqRmS_1_1 l r x20)
  else
  bif (atL Rm.cs l x20.toNat 1).toI != (atL Rm.cs r x20.toNat 1).toI then
   K .ret (ex_eqRmS_1_1 l r x20)
  else
  bif (atL Rm.cs l x20.toNat 2).toI != (atL Rm.cs r x20.toNat 2).toI then
   K .ret (ex_eqRmS_1_1 l r x20)
  else
  bif (atL Rm.cs l x20.toNat 3).toI != (atL Rm.cs r x20.toNat 3).toI then
   K .ret (ex_eqRmS_1_1 l r x20)
  else
  gd (dom ok2_HdS ea2_HdS
  [(0, false, [C.tr false (T.arr 2 (atL Rm.cs l x20.toNat 4).ln (atL Rm.cs l x20.toNat 4).fn)]),
    (0, false, [C.tr false (T.arr 2 (atL Rm.cs r x20.toNat 4).ln (atL Rm.cs r x20.toNat 4).fn)])]) <|
  bif !f_eqHdS
    (inv ok2_HdS ea2_HdS
      [(0, false, [C.tr false (T.arr 2 (atL Rm.cs l x20.toNat 4).ln (atL Rm.cs l x20.toNat 4).fn)]),
        (0, false, [C.tr false (T.arr 2 (atL Rm.cs r x20.toNat 4).ln (atL Rm.cs r x20.toNat 4).fn)])]) then
   K .ret (ex_eqRmS_1_1 l r x20)
  else
  bif (atL Rm.cs l x20.toNat 5).toI != (atL Rm.cs r x20.toNat 5).toI then
   K .ret (ex_eqRmS_1_1 l r x20)
  else
  bif (atL Rm.cs l x20.toNat 6).toI != (atL Rm.cs r x20.toNat 6).toI then
   K .ret (ex_eqRmS_1_1 l r x20)
  else
  bif !(atL Rm.cs l x20.toNat 7).toB == (atL Rm.cs r x20.toNat 7).toB then
   K .ret (ex_eqRmS_1_1 l r x20)
  else
  bif (atL Rm.cs l x20.toNat 8).toI != (atL Rm.cs r x20.toNat 8).toI then
   K .ret (ex_eqRmS_1_1 l r x20)
  else
  gd (dom ok2_SfS ea2_SfS
  [(0, false, [C.tr false (T.arr 1 (atL Rm.cs l x20.toNat 9).ln (atL Rm.cs l x20.toNat 9).fn)]),
    (0, false, [C.tr false (T.arr 1 (atL Rm.cs r x20.toNat 9).ln (atL Rm.cs r x20.toNat 9).fn)])]) <|
  bif !f_eqSfS
    (inv ok2_SfS ea2_SfS
      [(0, false, [C.tr false (T.arr 1 (atL Rm.cs l x20.toNat 9).ln (atL Rm.cs l x20.toNat 9).fn)]),
        (0, false, [C.tr false (T.arr 1 (atL Rm.cs r x20.toNat 9).ln (atL Rm.cs r x20.toNat 9).fn)])]) then
   K .ret (ex_eqRmS_1_1 l r x20)
  else
  gd (dom ok2_LI ea2_LI
  [(0, false, [C.tr false (T.arr 1 (atL Rm.cs l x20.toNat 10).ln (atL Rm.cs l x20.toNat 10).fn)]),
    (0, false, [C.tr false (T.arr 1 (atL Rm.cs r x20.toNat 10).ln (atL Rm.cs r x20.toNat 10).fn)])]) <|
  bif !f_eqLI
    (inv ok2_LI ea2_LI
      [(0, false, [C.tr false (T.arr 1 (atL Rm.cs l x20.toNat 10).ln (atL Rm.cs l x20.toNat 10).fn)]),
        (0, false, [C.tr false (T.arr 1 (atL Rm.cs r x20.toNat 10).ln (atL Rm.cs r x20.toNat 10).fn)])]) then
   K .ret (ex_eqRmS_1_1 l r x20)
  else
  K .normal (st_eqRmS_1 l r (IntKind.i64.wrap (x20 + 1)))
 else
 K (.exit 0) (ex_eqRmS_1_2 l r x20)) := by kernel_rfl
theorem post_eqRmS_1_1 (l r : List Rm) (x20 : Int) (n : Nat) : contAt prog (tabS [(i_eqRm, e_eqRm)]) kp_eqRmS F_eqRmS ts_eqRmS [1, 1, 0, 1, 0] [] n .ret (ex_eqRmS_1_1 l r x20) = (
 some ([(false, [.tr true (T.bool false)])], [(false, []), (false, [])])) := by kernel_rfl
theorem post_eqRmS_1_2 (l r : List Rm) (x20 : Int) (n : Nat) : contAt prog (tabS [(i_eqRm, e_eqRm)]) kp_eqRmS F_eqRmS ts_eqRmS [1, 1, 0, 1, 0] [] n (.exit 0) (ex_eqRmS_1_2 l r x20) = (
 some ([(false, [.tr true (T.bool true)])], [(false, []), (false, [])])) := by kernel_rfl
theorem pre_eqRmS (l r : List Rm) (n : Nat) : body prog (tabS [(i_eqRm, e_eqRm)]) kp_eqRmS n F_eqRmS [aT (eL 11 Rm.cs l), aT (eL 11 Rm.cs r)] = (
 bif (↑l.length : Int) != (↑r.length : Int) then
  some ([(false, [.tr true (T.bool false)])], [(false, []), (false, [])])
 else
 loopAt prog (tabS [(i_eqRm, e_eqRm)]) kp_eqRmS F_eqRmS [1, 1, 0, 1, 0] n n (st_eqRmS_1 l r (0)) (contAt prog (tabS [(i_eqRm, e_eqRm)]) kp_eqRmS F_eqRmS ts_eqRmS [1, 1, 0, 1, 0] [] n)) := by kernel_rfl
theorem body_eqRmS (l r : List Rm) (hl : okq_RmS l) : body prog (tabS [(i_eqRm, e_eqRm)]) kp_eqRmS (l.length + 1) F_eqRmS (ea2_RmS (l, r)) = some (erB 2 (f_eqRmS (l, r))) := by
  have hbm := bm
  have hl' : l.length ≤ BM := hl.1
  unfold ea2_RmS f_eqRmS
  dsimp only
  rw [pre_eqRmS, int_ne]
  by_cases h : l.length = r.length
  · rw [decide_eq_true (by omega)]
    simp only [Bool.not_true, cond_false]
    have hst : st_eqRmS_1 l r 0 = (fun i : Nat => st_eqRmS_1 l r (i : Nat)) 0 := rfl
    rw [hst, eqS l r h (fun i : Nat => st_eqRmS_1 l r (i : Nat)) (fun i : Nat => ex_eqRmS_1_1 l r (i : Nat)) (ex_eqRmS_1_2 l r l.length) (fun i x y K hx hy => ?_) (fun K => ?_) (fun i => post_eqRmS_1_1 l r _ _) (post_eqRmS_1_2 l r _ _) _ (Nat.le_refl _)]
    · by_cases e : l = r
      · rw [if_pos e, decide_eq_true e]; rfl
      · rw [if_neg e, decide_eq_false e]; rfl
    · have hi := (List.getElem?_eq_some_iff.1 hx).1
      have hi' := (List.getElem?_eq_some_iff.1 hy).1
      have hxm : x ∈ l := List.mem_of_getElem? hx
      have h0 := (hl.2 _ hxm).1
      have h1 := (hl.2 _ hxm).2.1
      have h2 := (hl.2 _ hxm).2.2
      rw [round_eqRmS_1]
      simp only [lt_d, ge0_d, Int.toNat_natCast, blt_d, ble_self, beq_self, decide_true, cond_true, Bool.and_self, Bool.and_true, Bool.true_and, gd_true, Nat.zero_add, List.getD_cons_zero, List.getD_cons_succ, isI_int, toI_int, isB_bool, toB_bool, eL_T, arr_ln, arr_fn, arr_wd, arr_is, arr_get, hi, hi', atL_of hx, atL_of hy, Rm.cs, int_ne, bool_ne, bool_eq, dm_eqHdS h0, iv_eqHdS h0, d_eqHdS, dm_eqSfS h1, iv_eqSfS h1, d_eqSfS, dm_eqLI h2, iv_eqLI h2, d_eqLI, chain]
      rw [wrapS (by omega)]
      have hxy : (x.h.slot = y.h.slot ∧ x.h.gen = y.h.gen ∧ x.up.slot = y.up.slot ∧ x.up.gen = y.up.gen ∧ x.kids = y.kids ∧ x.ep = y.ep ∧ x.chunks = y.chunks ∧ x.cur = y.cur ∧ x.bump = y.bump ∧ x.things = y.things ∧ x.tags = y.tags) ↔ x = y := by
        rcases x with ⟨⟨x0, x1⟩, ⟨x2, x3⟩, x4, x5, x6, x7, x8, x9, x10⟩
        rcases y with ⟨⟨y0, y1⟩, ⟨y2, y3⟩, y4, y5, y6, y7, y8, y9, y10⟩
        simp [and_assoc]
      simp only [hxy]
    · rw [round_eqRmS_1]
      simp only [lt_d, Nat.lt_irrefl, decide_false, cond_false]
  · rw [decide_eq_false (by omega)]
    have : ¬ l = r := fun e => h (by rw [e])
    rw [decide_eq_false this]
    rfl
theorem s_eqRmS : EntOk prog i_eqRmS e_eqRmS := ent_ok ea2_RmS_inj fun x hx =>
  body_sound (φ := (tabS [(i_eqRm, e_eqRm)])) (tabS_cons s_eqRm tabS_nil) mixed (kp := kp_eqRmS) (n := x.1.length + 1) func79 (c := bodyOf F_eqRmS) (by kernel_rfl) (body_eqRmS x.1 x.2 hx) (name_ok (by kernel_rfl))

theorem dm_toRmS {l : List Rm} (h : ok_RmS l) : dom ok_RmS ea_RmS [(0, false, [C.tr false (T.arr 11 l.length (atL Rm.cs l))])] = true := dom_ea (ea := ea_RmS) (x := l) h
theorem iv_toRmS {l : List Rm} (h : ok_RmS l) : inv ok_RmS ea_RmS [(0, false, [C.tr false (T.arr 11 l.length (atL Rm.cs l))])] = l := inv_ea ea_RmS_inj (x := l) h
theorem dm_eqRmS {l r : List Rm} (h : okq_RmS l) : dom ok2_RmS ea2_RmS [(0, false, [C.tr false (T.arr 11 l.length (atL Rm.cs l))]), (0, false, [C.tr false (T.arr 11 r.length (atL Rm.cs r))])] = true := dom_ea (ea := ea2_RmS) (x := (l, r)) h
theorem iv_eqRmS {l r : List Rm} (h : okq_RmS l) : inv ok2_RmS ea2_RmS [(0, false, [C.tr false (T.arr 11 l.length (atL Rm.cs l))]), (0, false, [C.tr false (T.arr 11 r.length (atL Rm.cs r))])] = (l, r) := inv_ea ea2_RmS_inj (x := (l, r)) h
theorem d_eqRmS (l r : List Rm) : f_eqRmS (l, r) = decide (l = r) := rfl
def n1_RmS (x : Rm) : Nat := n_HdS x.kids + n_SfS x.things + n_LI x.tags
def n_RmS (l : List Rm) : Nat := l.length + cntL n1_RmS l
def okz_RmS (l : List Rm) : Prop := l.length ≤ ZM ∧ ∀ x ∈ l, okz_HdS x.kids ∧ okz_SfS x.things ∧ okz_LI x.tags
def okzz_RmS (x : List Rm × Int) : Prop := okz_RmS x.1 ∧ 0 ≤ x.2 ∧ x.2 ≤ LM
def eaz_RmS (x : List Rm × Int) : List Arg := [aT (eL 11 Rm.cs x.1), aI x.2]
def f_szRmS (x : List Rm × Int) : Int := if (n_RmS x.1 : Int) ≤ x.2 then x.2 - n_RmS x.1 else -1
noncomputable def e_szRmS : Ent := ent [] okzz_RmS eaz_RmS (erI 2) f_szRmS
theorem eaz_RmS_inj (x y : List Rm × Int) (h : eaz_RmS x = eaz_RmS y) : x = y := by
  simp only [eaz_RmS, aI, aT, List.cons.injEq, Prod.mk.injEq, true_and, and_true, C.tr.injEq, T.int.injEq] at h
  exact Prod.ext (eL_inj Rm.cs_inj h.1) h.2
theorem dm_szRmS {l : List Rm} {k : Int} (h : okzz_RmS (l, k)) : dom okzz_RmS eaz_RmS [(0, false, [C.tr false (T.arr 11 l.length (atL Rm.cs l))]), (0, false, [C.tr false (T.int IntKind.i64 k)])] = true := dom_ea (ea := eaz_RmS) (x := (l, k)) h
theorem iv_szRmS {l : List Rm} {k : Int} (h : okzz_RmS (l, k)) : inv okzz_RmS eaz_RmS [(0, false, [C.tr false (T.arr 11 l.length (atL Rm.cs l))]), (0, false, [C.tr false (T.int IntKind.i64 k)])] = (l, k) := inv_ea eaz_RmS_inj (x := (l, k)) h
theorem y_szRmS {l : List Rm} {k : Int} (h : (n_RmS l : Int) ≤ k) : f_szRmS (l, k) = k - n_RmS l := if_pos h
theorem n_szRmS {l : List Rm} {k : Int} (h : ¬ (n_RmS l : Int) ≤ k) : f_szRmS (l, k) = -1 := if_neg h
def i_szRmS : Nat := 73
noncomputable abbrev F_szRmS : Func := f73
def kp_szRmS : List (Nat × List Nat) := [(0, [0, 4]), (1, [0, 4]), (2, [0, 4, 44]), (3, [16]), (4, [0, 4, 20]), (5, [0, 4, 20, 60]), (6, [0, 4, 20]), (7, [0, 4, 20]), (8, [0, 4, 20, 100]), (9, [16]), (10, [16])]
def ts_szRmS : List Nat := [0, 0]
def st_szRmS_1 (l : List Rm) (k : Int) (x4 : Int) (x20 : Int) : St := [(0, ⟨z0, [(false, [.tr false (eL 11 Rm.cs l)])]⟩), (4, ⟨z0, [(false, [.tr true (T.int IntKind.i64 x4)])]⟩), (20, ⟨z0, [(false, [.tr true (T.int IntKind.i64 x20)])]⟩)]
def ex_szRmS_1_1 (l : List Rm) (k : Int) (x4 : Int) (x20 : Int) : St := [(16, ⟨z0, [(false, [.tr true (T.int IntKind.i64 (-1))])]⟩)]
def ex_szRmS_1_2 (l : List Rm) (k : Int) (x4 : Int) (x20 : Int) : St := [(0, ⟨z0, [(false, [.tr false (eL 11 Rm.cs l)])]⟩), (4, ⟨z0, [(false, [.tr true (T.int IntKind.i64 x4)])]⟩), (20, ⟨z0, [(false, [.tr true (T.int IntKind.i64 x20)])]⟩), (60, ⟨z0, []⟩)]
theorem round_szRmS_1 (l : List Rm) (k : Int) (x4 : Int) (x20 : Int) (n : Nat) (K : Ex → St → Res) : roundAt prog (tabS [(i_szRm, e_szRm)]) kp_szRmS F_szRmS [1, 1, 1, 0, 1, 0] n (st_szRmS_1 l k x4 x20) K = (
 bif decide (x20 < (↑l.length : Int)) then
  gd (decide (0 ≤ x20) && (x20.toNat.blt l.length && true)) <|
  gd (T.isI IntKind.i64 (atL Rm.cs l x20.toNat 0) && T.isI IntKind.i64 (atL Rm.cs l x20.toNat 1) &&
                  T.isI IntKind.i64 (atL Rm.cs l x20.toNat 2) &&
                T.isI IntKind.i64 (atL Rm.cs l x20.toNat 3) &&
              ((atL Rm.cs l x20.toNat 4).isArr && (atL Rm.cs l x20.toNat 4).wd.beq 2) &&
            T.isI IntKind.i64 (atL Rm.cs l x20.toNat 5) &&
          T.isI IntKind.i64 (atL Rm.cs l x20.toNat 6) &&
        (atL Rm.cs l x20.toNat 7).isB &&
      T.isI IntKind.i64 (atL Rm.cs l x20.toNat 8) &&
    ((atL Rm.cs l x20.toNat 9).isArr && (atL Rm.cs l x20.toNat 9).wd.beq 1) &&
  ((atL Rm.cs l x20.toNat 10).isArr && (atL Rm.cs l x20.toNat 10).wd.beq 1)) <|
  bif decide (IntKind.i64.wrap (x4 - (↑(atL Rm.cs l x20.toNat 4).ln : Int)) < 0) then
   K .ret (ex_szRmS_1_1 l k x4 x20)
  else
  bif decide (IntKind.i64.wrap (x4 - (↑(atL Rm.cs l x20.toNat 4).ln : Int)) < 0) then
   K .ret (ex_szRmS_1_1 l k x4 x20)
  else
  gd (dom okzz_SfS eaz_SfS
  [(0, false, [C.tr false (T.arr 1 (atL Rm.cs l x20.toNat 9).ln (atL Rm.cs l x20.toNat 9).fn)]),
    (0, false, [C.tr false (T.int IntKind.i64 (IntKind.i64.wrap (x4 - (↑(atL Rm.cs l x20.toNat 4).ln : Int))))])]) <|
  bif decide
  (f_szSfS
      (inv okzz_SfS eaz_SfS
        [(0, false, [C.tr false (T.arr 1 (atL Rm.cs l x20.toNat 9).ln (atL Rm.cs l x20.toNat 9).fn)]),
          (0, false,
            [C.tr false (T.int IntKind.i64 (IntKind.i64.wrap (x4 - (↑(atL Rm.cs l x20.toNat 4).ln : Int))))])]) <
    0) then
   K .ret (ex_szRmS_1_1 l k x4 x20)
  else
  bif decide
  (IntKind.i64.wrap
      (f_szSfS
          (inv okzz_SfS eaz_SfS
            [(0, false, [C.tr false (T.arr 1 (atL Rm.cs l x20.toNat 9).ln (atL Rm.cs l x20.toNat 9).fn)]),
              (0, false,
                [C.tr false (T.int IntKind.i64 (IntKind.i64.wrap (x4 - (↑(atL Rm.cs l x20.toNat 4).ln : Int))))])]) -
        (↑(atL Rm.cs l x20.toNat 10).ln : Int)) <
    0) then
   K .ret (ex_szRmS_1_1 l k x4 x20)
  else
  bif decide
  (IntKind.i64.wrap
      (f_szSfS
          (inv okzz_SfS eaz_SfS
            [(0, false, [C.tr false (T.arr 1 (atL Rm.cs l x20.toNat 9).ln (atL Rm.cs l x20.toNat 9).fn)]),
              (0, false,
                [C.tr false (T.int IntKind.i64 (IntKind.i64.wrap (x4 - (↑(atL Rm.cs l x20.toNat 4).ln : Int))))])]) -
        (↑(atL Rm.cs l x20.toNat 10).ln : Int)) <
    0) then
   K .ret (ex_szRmS_1_1 l k x4 x20)
  else
  bif decide
  (IntKind.i64.wrap
      (f_szSfS
          (inv okzz_SfS eaz_SfS
            [(0, false, [C.tr false (T.arr 1 (atL Rm.cs l x20.toNat 9).ln (atL Rm.cs l x20.toNat 9).fn)]),
              (0, false,
                [C.tr false (T.int IntKind.i64 (IntKind.i64.wrap (x4 - (↑(atL Rm.cs l x20.toNat 4).ln : Int))))])]) -
        (↑(atL Rm.cs l x20.toNat 10).ln : Int)) <
    0) then
   K .ret (ex_szRmS_1_1 l k x4 x20)
  else
  K .normal (st_szRmS_1 l k (IntKind.i64.wrap
  (f_szSfS
      (inv okzz_SfS eaz_SfS
        [(0, false, [C.tr false (T.arr 1 (atL Rm.cs l x20.toNat 9).ln (atL Rm.cs l x20.toNat 9).fn)]),
          (0, false,
            [C.tr false (T.int IntKind.i64 (IntKind.i64.wrap (x4 - (↑(atL Rm.cs l x20.toNat 4).ln : Int))))])]) -
    (↑(atL Rm.cs l x20.toNat 10).ln : Int))) (IntKind.i64.wrap (x20 + 1)))
 else
 K (.exit 0) (ex_szRmS_1_2 l k x4 x20)) := by kernel_rfl
theorem post_szRmS_1_1 (l : List Rm) (k : Int) (x4 : Int) (x20 : Int) (n : Nat) : contAt prog (tabS [(i_szRm, e_szRm)]) kp_szRmS F_szRmS ts_szRmS [1, 1, 1, 0, 1, 0] [] n .ret (ex_szRmS_1_1 l k x4 x20) = (
 some ([(false, [.tr true (T.int IntKind.i64 (-1))])], [(false, []), (false, [])])) := by kernel_rfl
theorem post_szRmS_1_2 (l : List Rm) (k : Int) (x4 : Int) (x20 : Int) (n : Nat) : contAt prog (tabS [(i_szRm, e_szRm)]) kp_szRmS F_szRmS ts_szRmS [1, 1, 1, 0, 1, 0] [] n (.exit 0) (ex_szRmS_1_2 l k x4 x20) = (
 some ([(false, [.tr true (T.int IntKind.i64 x4)])], [(false, []), (false, [])])) := by kernel_rfl
theorem pre_szRmS (l : List Rm) (k : Int) (n : Nat) : body prog (tabS [(i_szRm, e_szRm)]) kp_szRmS n F_szRmS [aT (eL 11 Rm.cs l), aI k] = (
 bif decide (IntKind.i64.wrap (k - (↑l.length : Int)) < 0) then
  some ([(false, [.tr true (T.int IntKind.i64 (-1))])], [(false, []), (false, [])])
 else
 loopAt prog (tabS [(i_szRm, e_szRm)]) kp_szRmS F_szRmS [1, 1, 1, 0, 1, 0] n n (st_szRmS_1 l k (IntKind.i64.wrap (k - (↑l.length : Int))) (0)) (contAt prog (tabS [(i_szRm, e_szRm)]) kp_szRmS F_szRmS ts_szRmS [1, 1, 1, 0, 1, 0] [] n)) := by kernel_rfl
theorem round1_szRmS (l : List Rm) (k : Int) (hl : okz_RmS l) {n : Nat} (i : Nat) (x : Rm) (K : Ex → St → Res) (hx : l[i]? = some x) (hr : (cntL n1_RmS (l.take i) : Int) ≤ k - (l.length : Int)) (hk1 : k ≤ LM) : roundAt prog (tabS [(i_szRm, e_szRm)]) kp_szRmS F_szRmS [1, 1, 1, 0, 1, 0] n (st_szRmS_1 l k (k - (l.length : Int) - cntL n1_RmS (l.take i)) (i : Nat)) K = bif decide (k - (l.length : Int) - cntL n1_RmS (l.take i) < n1_RmS x) then K .ret (ex_szRmS_1_1 l k (k - (l.length : Int) - cntL n1_RmS (l.take i)) (i : Nat)) else K .normal (st_szRmS_1 l k (k - (l.length : Int) - cntL n1_RmS (l.take (i + 1))) ((i + 1 : Nat) : Int)) := by
    have hzm := zm
    have hlm := lm
    have hl' : l.length ≤ ZM := hl.1
    have hi := (List.getElem?_eq_some_iff.1 hx).1
    have hxm : x ∈ l := List.mem_of_getElem? hx
    have hc := cntL_take n1_RmS l hx
    have hcx : n1_RmS x = x.kids.length + n_SfS x.things + x.tags.length := rfl
    rw [hc, round_szRmS_1]
    obtain ⟨k0, hk⟩ : ∃ k0, k0 = k - (l.length : Int) - (cntL n1_RmS (l.take i) : Int) := ⟨_, rfl⟩
    have hk2 : k - (l.length : Int) - ((cntL n1_RmS (l.take i) + n1_RmS x : Nat) : Int) = k0 - (x.kids.length : Int) - (n_SfS x.things : Int) - (x.tags.length : Int) := by omega
    rw [hk2, ← hk]
    have hk3 : 0 ≤ k0 := by omega
    have hk4 : k0 ≤ LM := by omega
    simp (disch := omega) only [lt_d, ge0_d, Int.toNat_natCast, blt_d, ble_self, beq_self, decide_true, cond_true, Bool.and_self, Bool.and_true, Bool.true_and, gd_true, Nat.zero_add, List.getD_cons_zero, List.getD_cons_succ, isI_int, toI_int, isB_bool, toB_bool, eL_T, arr_ln, arr_fn, arr_wd, arr_is, arr_get, hi, atL_of hx, Rm.cs, wrapS]
    have h0 : x.kids.length ≤ ZM := (hl.2 _ hxm).1
    have h1 : x.things.length ≤ ZM := ((hl.2 _ hxm).2.1).1
    have h2 : x.tags.length ≤ ZM := (hl.2 _ hxm).2.2
    try simp (disch := omega) only [wrapI]
    by_cases e0 : k0 - (x.kids.length : Int) < 0
    case pos =>
      rw [decide_eq_true e0, decide_eq_true (show k0 < (n1_RmS x : Int) by omega)]
      rfl
    simp (disch := omega) only [decide_eq_false e0, cond_false, wrapI]
    have g1 : okzz_SfS (x.things, k0 - (x.kids.length : Int)) := ⟨(hl.2 _ hxm).2.1, by dsimp only; omega, by dsimp only; omega⟩
    simp only [dm_szSfS g1, iv_szSfS g1, gd_true]
    by_cases e1 : (n_SfS x.things : Int) ≤ k0 - (x.kids.length : Int)
    case neg =>
      simp only [n_szSfS e1]
      rw [decide_eq_true (show (-1 : Int) < 0 by omega), decide_eq_true (show k0 < (n1_RmS x : Int) by omega)]
      rfl
    simp only [y_szSfS e1]
    simp (disch := omega) only [decide_eq_false (show ¬ k0 - (x.kids.length : Int) - (n_SfS x.things : Int) < 0 by omega), cond_false, wrapI]
    try simp (disch := omega) only [wrapI]
    by_cases e2 : k0 - (x.kids.length : Int) - (n_SfS x.things : Int) - (x.tags.length : Int) < 0
    case pos =>
      rw [decide_eq_true e2, decide_eq_true (show k0 < (n1_RmS x : Int) by omega)]
      rfl
    simp (disch := omega) only [decide_eq_false e2, cond_false, wrapI]
    rw [decide_eq_false (show ¬ k0 < (n1_RmS x : Int) by omega)]
    simp only [cond_false]
    try congr 2
    try omega
theorem body_szRmS (l : List Rm) (k : Int) (h : okzz_RmS (l, k)) : body prog (tabS [(i_szRm, e_szRm)]) kp_szRmS (l.length + 1) F_szRmS (eaz_RmS (l, k)) = some (erI 2 (f_szRmS (l, k))) := by
  obtain ⟨hl, hk0, hk1⟩ := h
  have hzm := zm
  have hlm := lm
  dsimp only at hl hk0 hk1
  have hl' : l.length ≤ ZM := hl.1
  have hn : n_RmS l = l.length + cntL n1_RmS l := rfl
  unfold eaz_RmS f_szRmS
  dsimp only
  rw [pre_szRmS]
  simp (disch := omega) only [wrapI]
  by_cases hs : k - (l.length : Int) < 0
  · rw [decide_eq_true hs, if_neg (by omega)]
    rfl
  · rw [decide_eq_false hs]
    simp only [cond_false]
    have hst : st_szRmS_1 l k (k - (l.length : Int)) 0 = (fun i : Nat => st_szRmS_1 l k (k - (l.length : Int) - cntL n1_RmS (l.take i)) (i : Nat)) 0 := by simp [cntL]
    rw [hst, szS n1_RmS l (k - (l.length : Int)) (by omega) (fun i : Nat => st_szRmS_1 l k (k - (l.length : Int) - cntL n1_RmS (l.take i)) (i : Nat)) (fun i : Nat => ex_szRmS_1_1 l k (k - (l.length : Int) - cntL n1_RmS (l.take i)) (i : Nat)) (ex_szRmS_1_2 l k (k - (l.length : Int) - cntL n1_RmS l) l.length) (fun i x K hx hr => ?_) (fun K hr => ?_) (fun i => post_szRmS_1_1 l k _ _ _) (post_szRmS_1_2 l k _ _ _) _ (Nat.le_refl _)]
    · by_cases hq : (cntL n1_RmS l : Int) ≤ k - (l.length : Int)
      · rw [if_pos hq, if_pos (by omega), show k - (l.length : Int) - (cntL n1_RmS l : Int) = k - (n_RmS l : Int) by omega]
        rfl
      · rw [if_neg hq, if_neg (by omega)]
        rfl
    · exact round1_szRmS l k hl i x K hx hr hk1
    · rw [round_szRmS_1]
      simp only [lt_d, Nat.lt_irrefl, decide_false, cond_false, List.take_length]
theorem s_szRmS : EntOk prog i_szRmS e_szRmS := ent_ok eaz_RmS_inj fun x hx =>
  body_sound (φ := (tabS [(i_szRm, e_szRm)])) (tabS_cons s_szRm tabS_nil) mixed (kp := kp_szRmS) (n := x.1.length + 1) func73 (c := bodyOf F_szRmS) (by kernel_rfl) (body_szRmS x.1 x.2 hx) (name_ok (by kernel_rfl))

end Go.Mach.F