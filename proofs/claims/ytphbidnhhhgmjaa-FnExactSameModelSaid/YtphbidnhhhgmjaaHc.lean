/- FnExactTakenBy. Conditions: none. -/
import Derived.Test.YtphbidnhhhgmjaaHb
set_option linter.all false
namespace Go.Mach.F
open Go Go.Mach Go.Proofs.Try
--=set_option maxRecDepth 100000
theorem cntL_mem {α : Type} (c : α → Nat) {x : α} : ∀ {l : List α}, x ∈ l → c x ≤ cntL c l
  | y :: l, h => by
    rcases List.mem_cons.1 h with rfl | h
    · unfold cntL; omega
    · have := cntL_mem c h
      unfold cntL
      omega
theorem okn_LI {l : List Int} (h : (n_LI l : Int) ≤ 1048576) : ok_LI l ∧ okq_LI l := by
  have := lm
  have := bm
  unfold n_LI at h
  exact ⟨by unfold ok_LI; omega, by unfold okq_LI; omega⟩
theorem okn_LB {l : List UInt8} (h : (n_LB l : Int) ≤ 1048576) : ok_LB l ∧ okq_LB l := by
  have := lm
  have := bm
  unfold n_LB at h
  exact ⟨by unfold ok_LB; omega, by unfold okq_LB; omega⟩
theorem okn_HdS {l : List Hd} (h : (n_HdS l : Int) ≤ 1048576) : ok_HdS l ∧ okq_HdS l := by
  have := lm
  have := bm
  unfold n_HdS at h
  exact ⟨⟨by omega, fun _ _ => trivial⟩, ⟨by omega, fun _ _ => trivial⟩⟩
theorem okn_SfS {l : List Sf} (h : (n_SfS l : Int) ≤ 1048576) : ok_SfS l ∧ okq_SfS l := by
  have := lm
  have := bm
  have e : n_SfS l = l.length + cntL n1_SfS l := rfl
  exact ⟨⟨by omega, fun x hx => (okn_LB (l := x.b) (by have := cntL_mem n1_SfS hx; have : n1_SfS x = n_LB x.b := rfl; omega)).1⟩, ⟨by omega, fun x hx => (okn_LB (l := x.b) (by have := cntL_mem n1_SfS hx; have : n1_SfS x = n_LB x.b := rfl; omega)).2⟩⟩
theorem okn_RmS {l : List Rm} (h : (n_RmS l : Int) ≤ 1048576) : ok_RmS l ∧ okq_RmS l := by
  have := lm
  have := bm
  have e : n_RmS l = l.length + cntL n1_RmS l := rfl
  exact ⟨⟨by omega, fun x hx => ⟨(okn_HdS (l := x.kids) (by have := cntL_mem n1_RmS hx; have : n1_RmS x = n_HdS x.kids + n_SfS x.things + n_LI x.tags := rfl; omega)).1, (okn_SfS (l := x.things) (by have := cntL_mem n1_RmS hx; have : n1_RmS x = n_HdS x.kids + n_SfS x.things + n_LI x.tags := rfl; omega)).1, (okn_LI (l := x.tags) (by have := cntL_mem n1_RmS hx; have : n1_RmS x = n_HdS x.kids + n_SfS x.things + n_LI x.tags := rfl; omega)).1⟩⟩, ⟨by omega, fun x hx => ⟨(okn_HdS (l := x.kids) (by have := cntL_mem n1_RmS hx; have : n1_RmS x = n_HdS x.kids + n_SfS x.things + n_LI x.tags := rfl; omega)).2, (okn_SfS (l := x.things) (by have := cntL_mem n1_RmS hx; have : n1_RmS x = n_HdS x.kids + n_SfS x.things + n_LI x.tags := rfl; omega)).2, (okn_LI (l := x.tags) (by have := cntL_mem n1_RmS hx; have : n1_RmS x = n_HdS x.kids + n_SfS x.things + n_LI x.tags := rfl; omega)).2⟩⟩⟩
def i_xTakenBy : Nat := 6
noncomputable abbrev F_xTakenBy : Func := f6
def kp_xTakenBy : List (Nat × List Nat) := [(0, [4, 5]), (1, [4, 5, 12]), (2, [4, 5, 12]), (3, [4, 5, 44]), (4, [8]), (5, [4, 5, 16]), (6, [4, 5, 16, 20, 21, 64]), (7, [4, 5, 16, 20, 21, 24, 64]), (8, [4, 5, 20, 21, 64, 84]), (9, [8]), (10, [104]), (11, [8]), (12, [8])]
def ts_xTakenBy : List Nat := [0]
theorem pre_xTakenBy (m : Ml) (n : Nat) : body prog (tabS [(i_szMl, e_szMl), (i_toMl, e_toMl), (i_sTakenBy, e_sTakenBy), (i_iTakenBy, e_iTakenBy), (i_EqMl, e_EqMl)]) kp_xTakenBy n F_xTakenBy [aR m.cs] = (
 gd (dom okzz_RmS eaz_RmS [(0, false, [C.tr false (eL 11 Rm.cs m.2)]), (0, false, [C.tr false (T.int IntKind.i64 1048576)])]) <|
 bif decide
  (f_szRmS
      (inv okzz_RmS eaz_RmS
        [(0, false, [C.tr false (eL 11 Rm.cs m.2)]), (0, false, [C.tr false (T.int IntKind.i64 1048576)])]) <
    0) then
  some ([(false, [.tr true (T.bool true)])], [(false, [])])
 else
 bif decide
  (IntKind.i64.wrap
      (f_szRmS
          (inv okzz_RmS eaz_RmS
            [(0, false, [C.tr false (eL 11 Rm.cs m.2)]), (0, false, [C.tr false (T.int IntKind.i64 1048576)])]) -
        (↑m.3.length : Int)) <
    0) then
  some ([(false, [.tr true (T.bool true)])], [(false, [])])
 else
 bif decide
  (IntKind.i64.wrap
      (f_szRmS
          (inv okzz_RmS eaz_RmS
            [(0, false, [C.tr false (eL 11 Rm.cs m.2)]), (0, false, [C.tr false (T.int IntKind.i64 1048576)])]) -
        (↑m.3.length : Int)) <
    0) then
  some ([(false, [.tr true (T.bool true)])], [(false, [])])
 else
 bif decide
  (IntKind.i64.wrap
      (f_szRmS
          (inv okzz_RmS eaz_RmS
            [(0, false, [C.tr false (eL 11 Rm.cs m.2)]), (0, false, [C.tr false (T.int IntKind.i64 1048576)])]) -
        (↑m.3.length : Int)) <
    0) then
  some ([(false, [.tr true (T.bool true)])], [(false, [])])
 else
 gd (dom ok_RmS ea_RmS [(0, false, [C.tr false (eL 11 Rm.cs m.2)])]) <|
 gd ((inv ok_RmS ea_RmS [(0, false, [C.tr false (eL 11 Rm.cs m.2)])]).length.ble
    (inv ok_RmS ea_RmS [(0, false, [C.tr false (eL 11 Rm.cs m.2)])]).length &&
  true) <|
 gd (dom ok_LI ea_LI [(0, false, [C.tr false (eL 1 rowI m.3)])]) <|
 gd ((inv ok_LI ea_LI [(0, false, [C.tr false (eL 1 rowI m.3)])]).length.ble
    (inv ok_LI ea_LI [(0, false, [C.tr false (eL 1 rowI m.3)])]).length &&
  true) <|
 gd ((inv ok_RmS ea_RmS [(0, false, [C.tr false (eL 11 Rm.cs m.2)])]).length.ble
    (inv ok_RmS ea_RmS [(0, false, [C.tr false (eL 11 Rm.cs m.2)])]).length &&
  true) <|
 gd ((inv ok_LI ea_LI [(0, false, [C.tr false (eL 1 rowI m.3)])]).length.ble
    (inv ok_LI ea_LI [(0, false, [C.tr false (eL 1 rowI m.3)])]).length &&
  true) <|
 gd ((inv ok_RmS ea_RmS [(0, false, [C.tr false (eL 11 Rm.cs m.2)])]).length.ble
    (inv ok_RmS ea_RmS [(0, false, [C.tr false (eL 11 Rm.cs m.2)])]).length &&
  true) <|
 gd ((inv ok_LI ea_LI [(0, false, [C.tr false (eL 1 rowI m.3)])]).length.ble
    (inv ok_LI ea_LI [(0, false, [C.tr false (eL 1 rowI m.3)])]).length &&
  true) <|
 gd ((0 + (inv ok_RmS ea_RmS [(0, false, [C.tr false (eL 11 Rm.cs m.2)])]).length).ble
  (inv ok_RmS ea_RmS [(0, false, [C.tr false (eL 11 Rm.cs m.2)])]).length) <|
 gd ((0 + (inv ok_LI ea_LI [(0, false, [C.tr false (eL 1 rowI m.3)])]).length).ble
  (inv ok_LI ea_LI [(0, false, [C.tr false (eL 1 rowI m.3)])]).length) <|
 gd (dom ok_sTakenBy ea_sTakenBy
  [(0, true,
      [C.tr false (T.int IntKind.i64 m.c.1), C.tr false (T.int IntKind.i64 m.c.2),
        C.tr false (T.int IntKind.i64 m.c.3), C.tr false (T.int IntKind.i64 m.c.4),
        C.tr false (T.int IntKind.i64 m.c.5), C.tr false (T.int IntKind.i64 m.c.6),
        C.tr false
          (T.arr 11 (inv ok_RmS ea_RmS [(0, false, [C.tr false (eL 11 Rm.cs m.2)])]).length
            (cutT 0 (inv ok_RmS ea_RmS [(0, false, [C.tr false (eL 11 Rm.cs m.2)])]).length
              (eL 11 Rm.cs (inv ok_RmS ea_RmS [(0, false, [C.tr false (eL 11 Rm.cs m.2)])])).fn)),
        C.tr false
          (T.arr 1 (inv ok_LI ea_LI [(0, false, [C.tr false (eL 1 rowI m.3)])]).length
            (cutT 0 (inv ok_LI ea_LI [(0, false, [C.tr false (eL 1 rowI m.3)])]).length
              (atL rowI (inv ok_LI ea_LI [(0, false, [C.tr false (eL 1 rowI m.3)])]))))])]) <|
 gd (dom ok_RmS ea_RmS [(0, false, [C.tr false (eL 11 Rm.cs m.2)])]) <|
 gd ((inv ok_RmS ea_RmS [(0, false, [C.tr false (eL 11 Rm.cs m.2)])]).length.ble
    (inv ok_RmS ea_RmS [(0, false, [C.tr false (eL 11 Rm.cs m.2)])]).length &&
  true) <|
 gd (dom ok_LI ea_LI [(0, false, [C.tr false (eL 1 rowI m.3)])]) <|
 gd ((inv ok_LI ea_LI [(0, false, [C.tr false (eL 1 rowI m.3)])]).length.ble
    (inv ok_LI ea_LI [(0, false, [C.tr false (eL 1 rowI m.3)])]).length &&
  true) <|
 gd ((inv ok_RmS ea_RmS [(0, false, [C.tr false (eL 11 Rm.cs m.2)])]).length.ble
    (inv ok_RmS ea_RmS [(0, false, [C.tr false (eL 11 Rm.cs m.2)])]).length &&
  true) <|
 gd ((inv ok_LI ea_LI [(0, false, [C.tr false (eL 1 rowI m.3)])]).length.ble
    (inv ok_LI ea_LI [(0, false, [C.tr false (eL 1 rowI m.3)])]).length &&
  true) <|
 gd ((inv ok_RmS ea_RmS [(0, false, [C.tr false (eL 11 Rm.cs m.2)])]).length.ble
    (inv ok_RmS ea_RmS [(0, false, [C.tr false (eL 11 Rm.cs m.2)])]).length &&
  true) <|
 gd ((inv ok_LI ea_LI [(0, false, [C.tr false (eL 1 rowI m.3)])]).length.ble
    (inv ok_LI ea_LI [(0, false, [C.tr false (eL 1 rowI m.3)])]).length &&
  true) <|
 gd ((inv ok_RmS ea_RmS [(0, false, [C.tr false (eL 11 Rm.cs m.2)])]).length.ble
    (inv ok_RmS ea_RmS [(0, false, [C.tr false (eL 11 Rm.cs m.2)])]).length &&
  true) <|
 gd ((inv ok_LI ea_LI [(0, false, [C.tr false (eL 1 rowI m.3)])]).length.ble
    (inv ok_LI ea_LI [(0, false, [C.tr false (eL 1 rowI m.3)])]).length &&
  true) <|
 gd ((0 + (inv ok_RmS ea_RmS [(0, false, [C.tr false (eL 11 Rm.cs m.2)])]).length).ble
  (inv ok_RmS ea_RmS [(0, false, [C.tr false (eL 11 Rm.cs m.2)])]).length) <|
 gd ((0 + (inv ok_LI ea_LI [(0, false, [C.tr false (eL 1 rowI m.3)])]).length).ble
  (inv ok_LI ea_LI [(0, false, [C.tr false (eL 1 rowI m.3)])]).length) <|
 gd (dom ok_iTakenBy ea_iTakenBy
  [(0, true,
      [C.tr false (T.int IntKind.i64 m.c.1), C.tr false (T.int IntKind.i64 m.c.2),
        C.tr false (T.int IntKind.i64 m.c.3), C.tr false (T.int IntKind.i64 m.c.4),
        C.tr false (T.int IntKind.i64 m.c.5), C.tr false (T.int IntKind.i64 m.c.6),
        C.tr false
          (T.arr 11 (inv ok_RmS ea_RmS [(0, false, [C.tr false (eL 11 Rm.cs m.2)])]).length
            (cutT 0 (inv ok_RmS ea_RmS [(0, false, [C.tr false (eL 11 Rm.cs m.2)])]).length
              (eL 11 Rm.cs (inv ok_RmS ea_RmS [(0, false, [C.tr false (eL 11 Rm.cs m.2)])])).fn)),
        C.tr false
          (T.arr 1 (inv ok_LI ea_LI [(0, false, [C.tr false (eL 1 rowI m.3)])]).length
            (cutT 0 (inv ok_LI ea_LI [(0, false, [C.tr false (eL 1 rowI m.3)])]).length
              (atL rowI (inv ok_LI ea_LI [(0, false, [C.tr false (eL 1 rowI m.3)])]))))])]) <|
 bif f_iTakenBy
    (inv ok_iTakenBy ea_iTakenBy
      [(0, true,
          [C.tr false (T.int IntKind.i64 m.c.1), C.tr false (T.int IntKind.i64 m.c.2),
            C.tr false (T.int IntKind.i64 m.c.3), C.tr false (T.int IntKind.i64 m.c.4),
            C.tr false (T.int IntKind.i64 m.c.5), C.tr false (T.int IntKind.i64 m.c.6),
            C.tr false
              (T.arr 11 (inv ok_RmS ea_RmS [(0, false, [C.tr false (eL 11 Rm.cs m.2)])]).length
                (cutT 0 (inv ok_RmS ea_RmS [(0, false, [C.tr false (eL 11 Rm.cs m.2)])]).length
                  (eL 11 Rm.cs (inv ok_RmS ea_RmS [(0, false, [C.tr false (eL 11 Rm.cs m.2)])])).fn)),
            C.tr false
              (T.arr 1 (inv ok_LI ea_LI [(0, false, [C.tr false (eL 1 rowI m.3)])]).length
                (cutT 0 (inv ok_LI ea_LI [(0, false, [C.tr false (eL 1 rowI m.3)])]).length
                  (atL rowI (inv ok_LI ea_LI [(0, false, [C.tr false (eL 1 rowI m.3)])]))))])]) !=
  f_sTakenBy
    (inv ok_sTakenBy ea_sTakenBy
      [(0, true,
          [C.tr false (T.int IntKind.i64 m.c.1), C.tr false (T.int IntKind.i64 m.c.2),
            C.tr false (T.int IntKind.i64 m.c.3), C.tr false (T.int IntKind.i64 m.c.4),
            C.tr false (T.int IntKind.i64 m.c.5), C.tr false (T.int IntKind.i64 m.c.6),
            C.tr false
              (T.arr 11 (inv ok_RmS ea_RmS [(0, false, [C.tr false (eL 11 Rm.cs m.2)])]).length
                (cutT 0 (inv ok_RmS ea_RmS [(0, false, [C.tr false (eL 11 Rm.cs m.2)])]).length
                  (eL 11 Rm.cs (inv ok_RmS ea_RmS [(0, false, [C.tr false (eL 11 Rm.cs m.2)])])).fn)),
            C.tr false
              (T.arr 1 (inv ok_LI ea_LI [(0, false, [C.tr false (eL 1 rowI m.3)])]).length
                (cutT 0 (inv ok_LI ea_LI [(0, false, [C.tr false (eL 1 rowI m.3)])]).length
                  (atL rowI (inv ok_LI ea_LI [(0, false, [C.tr false (eL 1 rowI m.3)])]))))])]) then
  some ([(false, [.tr true (T.bool false)])], [(false, [])])
 else
 gd (dom ok_RmS ea_RmS [(0, false, [C.tr false (eL 11 Rm.cs m.2)])]) <|
 gd ((inv ok_RmS ea_RmS [(0, false, [C.tr false (eL 11 Rm.cs m.2)])]).length.ble
    (inv ok_RmS ea_RmS [(0, false, [C.tr false (eL 11 Rm.cs m.2)])]).length &&
  true) <|
 gd (dom ok_LI ea_LI [(0, false, [C.tr false (eL 1 rowI m.3)])]) <|
 gd ((inv ok_LI ea_LI [(0, false, [C.tr false (eL 1 rowI m.3)])]).length.ble
    (inv ok_LI ea_LI [(0, false, [C.tr false (eL 1 rowI m.3)])]).length &&
  true) <|
 gd ((inv ok_RmS ea_RmS [(0, false, [C.tr false (eL 11 Rm.cs m.2)])]).length.ble
    (inv ok_RmS ea_RmS [(0, false, [C.tr false (eL 11 Rm.cs m.2)])]).length &&
  true) <|
 gd ((inv ok_LI ea_LI [(0, false, [C.tr false (eL 1 rowI m.3)])]).length.ble
    (inv ok_LI ea_LI [(0, false, [C.tr false (eL 1 rowI m.3)])]).length &&
  true) <|
 gd ((inv ok_RmS ea_RmS [(0, false, [C.tr false (eL 11 Rm.cs m.2)])]).length.ble
    (inv ok_RmS ea_RmS [(0, false, [C.tr false (eL 11 Rm.cs m.2)])]).length &&
  true) <|
 gd ((inv ok_LI ea_LI [(0, false, [C.tr false (eL 1 rowI m.3)])]).length.ble
    (inv ok_LI ea_LI [(0, false, [C.tr false (eL 1 rowI m.3)])]).length &&
  true) <|
 gd ((0 + (inv ok_RmS ea_RmS [(0, false, [C.tr false (eL 11 Rm.cs m.2)])]).length).ble
  (inv ok_RmS ea_RmS [(0, false, [C.tr false (eL 11 Rm.cs m.2)])]).length) <|
 gd ((0 + (inv ok_LI ea_LI [(0, false, [C.tr false (eL 1 rowI m.3)])]).length).ble
  (inv ok_LI ea_LI [(0, false, [C.tr false (eL 1 rowI m.3)])]).length) <|
 gd ((0 + (inv ok_RmS ea_RmS [(0, false, [C.tr false (eL 11 Rm.cs m.2)])]).length).ble
  (inv ok_RmS ea_RmS [(0, false, [C.tr false (eL 11 Rm.cs m.2)])]).length) <|
 gd ((0 + (inv ok_LI ea_LI [(0, false, [C.tr false (eL 1 rowI m.3)])]).length).ble
  (inv ok_LI ea_LI [(0, false, [C.tr false (eL 1 rowI m.3)])]).length) <|
 gd (dom ok_EqMl ea_EqMl
  [(0, true,
      [C.tr false (T.int IntKind.i64 m.c.1), C.tr false (T.int IntKind.i64 m.c.2),
        C.tr false (T.int IntKind.i64 m.c.3), C.tr false (T.int IntKind.i64 m.c.4),
        C.tr false (T.int IntKind.i64 m.c.5), C.tr false (T.int IntKind.i64 m.c.6),
        C.tr false
          (T.arr 11 (inv ok_RmS ea_RmS [(0, false, [C.tr false (eL 11 Rm.cs m.2)])]).length
            (cutT 0 (inv ok_RmS ea_RmS [(0, false, [C.tr false (eL 11 Rm.cs m.2)])]).length
              (eL 11 Rm.cs (inv ok_RmS ea_RmS [(0, false, [C.tr false (eL 11 Rm.cs m.2)])])).fn)),
        C.tr false
          (T.arr 1 (inv ok_LI ea_LI [(0, false, [C.tr false (eL 1 rowI m.3)])]).length
            (cutT 0 (inv ok_LI ea_LI [(0, false, [C.tr false (eL 1 rowI m.3)])]).length
              (atL rowI (inv ok_LI ea_LI [(0, false, [C.tr false (eL 1 rowI m.3)])]))))]),
    (0, true,
      [C.tr false (T.int IntKind.i64 m.c.1), C.tr false (T.int IntKind.i64 m.c.2),
        C.tr false (T.int IntKind.i64 m.c.3), C.tr false (T.int IntKind.i64 m.c.4),
        C.tr false (T.int IntKind.i64 m.c.5), C.tr false (T.int IntKind.i64 m.c.6),
        C.tr false
          (T.arr 11 (inv ok_RmS ea_RmS [(0, false, [C.tr false (eL 11 Rm.cs m.2)])]).length
            (cutT 0 (inv ok_RmS ea_RmS [(0, false, [C.tr false (eL 11 Rm.cs m.2)])]).length
              (eL 11 Rm.cs (inv ok_RmS ea_RmS [(0, false, [C.tr false (eL 11 Rm.cs m.2)])])).fn)),
        C.tr false
          (T.arr 1 (inv ok_LI ea_LI [(0, false, [C.tr false (eL 1 rowI m.3)])]).length
            (cutT 0 (inv ok_LI ea_LI [(0, false, [C.tr false (eL 1 rowI m.3)])]).length
              (atL rowI (inv ok_LI ea_LI [(0, false, [C.tr false (eL 1 rowI m.3)])]))))])]) <|
 bif !f_EqMl
    (inv ok_EqMl ea_EqMl
      [(0, true,
          [C.tr false (T.int IntKind.i64 m.c.1), C.tr false (T.int IntKind.i64 m.c.2),
            C.tr false (T.int IntKind.i64 m.c.3), C.tr false (T.int IntKind.i64 m.c.4),
            C.tr false (T.int IntKind.i64 m.c.5), C.tr false (T.int IntKind.i64 m.c.6),
            C.tr false
              (T.arr 11 (inv ok_RmS ea_RmS [(0, false, [C.tr false (eL 11 Rm.cs m.2)])]).length
                (cutT 0 (inv ok_RmS ea_RmS [(0, false, [C.tr false (eL 11 Rm.cs m.2)])]).length
                  (eL 11 Rm.cs (inv ok_RmS ea_RmS [(0, false, [C.tr false (eL 11 Rm.cs m.2)])])).fn)),
            C.tr false
              (T.arr 1 (inv ok_LI ea_LI [(0, false, [C.tr false (eL 1 rowI m.3)])]).length
                (cutT 0 (inv ok_LI ea_LI [(0, false, [C.tr false (eL 1 rowI m.3)])]).length
                  (atL rowI (inv ok_LI ea_LI [(0, false, [C.tr false (eL 1 rowI m.3)])]))))]),
        (0, true,
          [C.tr false (T.int IntKind.i64 m.c.1), C.tr false (T.int IntKind.i64 m.c.2),
            C.tr false (T.int IntKind.i64 m.c.3), C.tr false (T.int IntKind.i64 m.c.4),
            C.tr false (T.int IntKind.i64 m.c.5), C.tr false (T.int IntKind.i64 m.c.6),
            C.tr false
              (T.arr 11 (inv ok_RmS ea_RmS [(0, false, [C.tr false (eL 11 Rm.cs m.2)])]).length
                (cutT 0 (inv ok_RmS ea_RmS [(0, false, [C.tr false (eL 11 Rm.cs m.2)])]).length
                  (eL 11 Rm.cs (inv ok_RmS ea_RmS [(0, false, [C.tr false (eL 11 Rm.cs m.2)])])).fn)),
            C.tr false
              (T.arr 1 (inv ok_LI ea_LI [(0, false, [C.tr false (eL 1 rowI m.3)])]).length
                (cutT 0 (inv ok_LI ea_LI [(0, false, [C.tr false (eL 1 rowI m.3)])]).length
                  (atL rowI (inv ok_LI ea_LI [(0, false, [C.tr false (eL 1 rowI m.3)])]))))])]) then
  some ([(false, [.tr true (T.bool false)])], [(false, [])])
 else
 some ([(false, [.tr true (T.bool true)])], [(false, [])])) := by kernel_rfl
theorem body_xTakenBy (m : Ml) (hm : z_Ml m) (n : Nat) : body prog (tabS [(i_szMl, e_szMl), (i_toMl, e_toMl), (i_sTakenBy, e_sTakenBy), (i_iTakenBy, e_iTakenBy), (i_EqMl, e_EqMl)]) kp_xTakenBy n F_xTakenBy [aR m.cs] = some (erB 1 true) := by
  have hzm := zm
  have hlm := lm
  have hbm := bm
  have z0 : okz_RmS m.rooms := hm.1
  have z1 : okz_LI m.log := hm.2
  rw [pre_xTakenBy]
  have y0 : okzz_RmS (m.rooms, 1048576) := ⟨z0, by dsimp only; omega, by dsimp only; omega⟩
  simp only [lt_d, ge0_d, Int.toNat_natCast, blt_d, ble_self, beq_self, decide_true, cond_true, Bool.and_self, Bool.and_true, Bool.true_and, gd_true, Nat.zero_add, List.getD_cons_zero, List.getD_cons_succ, isI_int, toI_int, isB_bool, toB_bool, eL_T, arr_ln, arr_fn, arr_wd, arr_is, arr_get, Ml.cs, dm_szRmS y0, iv_szRmS y0]
  by_cases e0 : (n_RmS m.rooms : Int) ≤ 1048576
  case neg =>
    simp only [n_szRmS e0]
    simp only [decide_eq_true (show (-1 : Int) < 0 by omega), cond_true]
    rfl
  simp only [y_szRmS e0]
  simp (disch := omega) only [decide_eq_false (show ¬ 1048576 - (n_RmS m.rooms : Int) < 0 by omega), cond_false, wrapI]
  have y1 := (show m.log.length ≤ ZM from z1)
  try simp (disch := omega) only [wrapI]
  by_cases e1 : 1048576 - (n_RmS m.rooms : Int) - (m.log.length : Int) < 0
  · simp only [decide_eq_true e1, cond_true]
    rfl
  simp (disch := omega) only [decide_eq_false e1, cond_false, wrapI]
  obtain ⟨g0, q0⟩ := okn_RmS (l := m.rooms) (by omega)
  obtain ⟨g1, q1⟩ := okn_LI (l := m.log) (show (m.log.length : Int) ≤ 1048576 by omega)
  have c0 : ok_sTakenBy m := g0.1
  have c1 : ok_iTakenBy m := g0.1
  have c2 : ok_EqMl (m, m) := ⟨q0, q1⟩
  simp only [lt_d, ge0_d, Int.toNat_natCast, blt_d, ble_self, beq_self, decide_true, cond_true, Bool.and_self, Bool.and_true, Bool.true_and, gd_true, Nat.zero_add, List.getD_cons_zero, List.getD_cons_succ, isI_int, toI_int, isB_bool, toB_bool, eL_T, arr_ln, arr_fn, arr_wd, arr_is, arr_get, Ml.cs, dm_toRmS g0, iv_toRmS g0, dm_toLI g1, iv_toLI g1, cut_all, dm_sTakenBy c0, iv_sTakenBy c0, d_sTakenBy, dm_iTakenBy c1, iv_iTakenBy c1, d_iTakenBy, dm_EqMl c2, iv_EqMl c2, d_EqMl, bool_self, bool_nself, int_self, int_nself, Bool.not_true, cond_false]
  rfl
theorem sd_xTakenBy (m : Ml) (hm : z_Ml m) : Sound prog i_xTakenBy [aR m.cs] (erB 1 true).1 (erB 1 true).2 :=
  body_sound (φ := (tabS [(i_szMl, e_szMl), (i_toMl, e_toMl), (i_sTakenBy, e_sTakenBy), (i_iTakenBy, e_iTakenBy), (i_EqMl, e_EqMl)])) (tabS_cons s_szMl (tabS_cons s_toMl (tabS_cons s_sTakenBy (tabS_cons s_iTakenBy (tabS_cons s_EqMl tabS_nil))))) mixed (kp := kp_xTakenBy) (n := 0) func6 (c := bodyOf F_xTakenBy) (by kernel_rfl) (body_xTakenBy m hm 0) (name_ok (by kernel_rfl))
end Go.Mach.F