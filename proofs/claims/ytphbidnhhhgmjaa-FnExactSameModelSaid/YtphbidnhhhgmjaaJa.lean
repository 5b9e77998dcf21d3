/- Comparisons of slices. Conditions: none. -/
import Derived.Test.YtphbidnhhhgmjaaId
import Derived.Test.YtphbidnhhhgmjaaGb
set_option linter.all false
namespace Go.Mach.F
open Go Go.Mach Go.Proofs.Try
--=set_option maxRecDepth 100000
theorem eqSj {φ : Sems} {kp : List (Nat × List Nat)} {fn : Func} {p : List Nat} {n j : Nat} {K : Ex → St → Res} {α : Type} [DecidableEq α] (l r : List α) (hlr : l.length = r.length) (st ex1 : Nat → St) (ex2 : St)
    (hr : ∀ i x y (K : Ex → St → Res), l[i]? = some x → r[i]? = some y → roundAt prog φ kp fn p n (st i) K = bif !decide (x = y) then K .ret (ex1 i) else K .normal (st (i + 1)))
    (he : ∀ K : Ex → St → Res, roundAt prog φ kp fn p n (st l.length) K = K (.exit j) ex2) {v0 v1 : Res} (h0 : ∀ i, K .ret (ex1 i) = v0) (h1 : K (.exit j) ex2 = v1) :
    ∀ m, l.length + 1 ≤ m → loopAt prog φ kp fn p n m (st 0) K = if l = r then v1 else v0 := by
  intro m hm
  have := forExit (φ := φ) (kp := kp) (fn := fn) (p := p) (n := n) (K := K) l.length st ex2 j (fun i => !decide (l[i]? = r[i]?)) .ret (by simp) ex1 (fun i K hi => ?_) he m hm
  · refine Eq.trans this ?_
    rw [← eqRes l r hlr (v0 := v0) (v1 := v1) (f := fun i => K .ret (ex1 i)) (fun i => h0 _)]
    split <;> simp_all
  · have hx := List.getElem?_eq_getElem hi
    have hy := List.getElem?_eq_getElem (show i < r.length by omega)
    rw [hr i _ _ K hx hy, hx, hy]
    simp
def ok_slEqI (x : List Int × List Int) : Prop := x.1.length ≤ LM
def ea_slEqI (x : List Int × List Int) : List Arg := [aT (eI x.1), aT (eI x.2)]
def f_slEqI (x : List Int × List Int) : Bool := decide (x.1 = x.2)
noncomputable def e_slEqI : Ent := ent [] ok_slEqI ea_slEqI (erB 2) f_slEqI
theorem ea_slEqI_inj (x y : List Int × List Int) (h : ea_slEqI x = ea_slEqI y) : x = y := by
  obtain ⟨l1, r1⟩ := x
  obtain ⟨l2, r2⟩ := y
  simp only [ea_slEqI, List.cons.injEq, and_true, true_and] at h
  obtain ⟨e0, e1⟩ := h
  obtain rfl := eI_inj (aT_inj e0)
  obtain rfl := eI_inj (aT_inj e1)
  rfl
theorem dm_slEqI {l : List Int} {r : List Int} (h : ok_slEqI (l, r)) : dom ok_slEqI ea_slEqI [(0, false, [C.tr false (T.arr 1 l.length (atL rowI l))]), (0, false, [C.tr false (T.arr 1 r.length (atL rowI r))])] = true := dom_ea (ea := ea_slEqI) (x := (l, r)) h
theorem iv_slEqI {l : List Int} {r : List Int} (h : ok_slEqI (l, r)) : inv ok_slEqI ea_slEqI [(0, false, [C.tr false (T.arr 1 l.length (atL rowI l))]), (0, false, [C.tr false (T.arr 1 r.length (atL rowI r))])] = (l, r) := inv_ea ea_slEqI_inj (x := (l, r)) h
theorem d_slEqI (l : List Int) (r : List Int) : f_slEqI (l, r) = decide (l = r) := rfl
def i_slEqI : Nat := 84
noncomputable abbrev F_slEqI : Func := f84
def kp_slEqI : List (Nat × List Nat) := [(0, [0, 4]), (1, [0, 4, 40]), (2, [16]), (3, [0, 4, 48, 52]), (4, [0, 4, 48, 52, 56]), (5, [0, 4, 20, 48, 52]), (6, [0, 4, 48, 52, 96]), (7, [16]), (8, [0, 4, 48, 52]), (9, [16])]
def ts_slEqI : List Nat := [0, 0]
def st_slEqI_1 (l : List Int) (r : List Int) (x52 : Int) : St := [(0, ⟨z0, [(false, [.tr false (.arr (1) (l.length) (atL rowI l))])]⟩), (4, ⟨z0, [(false, [.tr false (.arr (1) (r.length) (atL rowI r))])]⟩), (48, ⟨z0, [(false, [.tr true (T.int IntKind.i64 (↑l.length : Int))])]⟩), (52, ⟨z0, [(false, [.tr true (T.int IntKind.i64 x52)])]⟩)]
def ex_slEqI_1_1 (l : List Int) (r : List Int) (x52 : Int) : St := [(16, ⟨z0, [(false, [.tr true (T.bool false)])]⟩)]
def ex_slEqI_1_2 (l : List Int) (r : List Int) (x52 : Int) : St := [(0, ⟨z0, [(false, [.tr false (.arr (1) (l.length) (atL rowI l))])]⟩), (4, ⟨z0, [(false, [.tr false (.arr (1) (r.length) (atL rowI r))])]⟩), (48, ⟨z0, [(false, [.tr true (T.int IntKind.i64 (↑l.length : Int))])]⟩), (52, ⟨z0, [(false, [.tr true (T.int IntKind.i64 x52)])]⟩), (56, ⟨z0, []⟩)]
theorem round_slEqI_1 (l : List Int) (r : List Int) (x52 : Int) (n : Nat) (K : Ex → St → Res) : roundAt prog (tabS []) kp_slEqI F_slEqI [1, 1, 0, 1, 0] n (st_slEqI_1 l r x52) K = (
 bif decide (x52 < (↑l.length : Int)) then
  gd (decide (0 ≤ x52) && (x52.toNat.blt l.length && true)) <|
  gd (T.isI IntKind.i64 (atL rowI l x52.toNat 0)) <|
  gd (decide (0 ≤ x52) && (x52.toNat.blt r.length && true)) <|
  gd (T.isI IntKind.i64 (atL rowI r x52.toNat 0)) <|
  bif (atL rowI l x52.toNat 0).toI != (atL rowI r x52.toNat 0).toI then
   K .ret (ex_slEqI_1_1 l r x52)
  else
  K .normal (st_slEqI_1 l r (IntKind.i64.wrap (x52 + 1)))
 else
 K (.exit 0) (ex_slEqI_1_2 l r x52)) := by kernel_rfl
theorem post_slEqI_1_1 (l : List Int) (r : List Int) (x52 : Int) (n : Nat) : contAt prog (tabS []) kp_slEqI F_slEqI ts_slEqI [1, 1, 0, 1, 0] [] n .ret (ex_slEqI_1_1 l r x52) = (
 some ([(false, [.tr true (T.bool false)])], [(false, []), (false, [])])) := by kernel_rfl
theorem post_slEqI_1_2 (l : List Int) (r : List Int) (x52 : Int) (n : Nat) : contAt prog (tabS []) kp_slEqI F_slEqI ts_slEqI [1, 1, 0, 1, 0] [] n (.exit 0) (ex_slEqI_1_2 l r x52) = (
 some ([(false, [.tr true (T.bool true)])], [(false, []), (false, [])])) := by kernel_rfl
theorem pre_slEqI (l : List Int) (r : List Int) (n : Nat) : body prog (tabS []) kp_slEqI n F_slEqI [aT (eI l), aT (eI r)] = (
 bif (↑l.length : Int) != (↑r.length : Int) then
  some ([(false, [.tr true (T.bool false)])], [(false, []), (false, [])])
 else
 loopAt prog (tabS []) kp_slEqI F_slEqI [1, 1, 0, 1, 0] n n (st_slEqI_1 l r (0)) (contAt prog (tabS []) kp_slEqI F_slEqI ts_slEqI [1, 1, 0, 1, 0] [] n)) := by kernel_rfl
theorem body_slEqI (l : List Int) (r : List Int) (h : ok_slEqI (l, r)) : body prog (tabS []) kp_slEqI (l.length + 1) F_slEqI (ea_slEqI (l, r)) = some (erB 2 (f_slEqI (l, r))) := by
  have hlm := lm
  have hl' : l.length ≤ LM := h
  unfold ea_slEqI f_slEqI
  try dsimp only
  rw [pre_slEqI, int_ne]
  by_cases hh : l.length = r.length
  · rw [decide_eq_true (by omega)]
    simp only [Bool.not_true, cond_false]
    have hst : st_slEqI_1 l r 0 = (fun i : Nat => st_slEqI_1 l r (i : Nat)) 0 := rfl
    rw [hst, eqS l r hh (fun i : Nat => st_slEqI_1 l r (i : Nat)) (fun i : Nat => ex_slEqI_1_1 l r (i : Nat)) (ex_slEqI_1_2 l r l.length) (fun i x y K hx hy => ?_) (fun K => ?_) (fun i => post_slEqI_1_1 l r _ _) (post_slEqI_1_2 l r _ _) _ (Nat.le_refl _)]
    · by_cases e : l = r
      · rw [if_pos e, decide_eq_true e]; rfl
      · rw [if_neg e, decide_eq_false e]; rfl
    · have hi := (List.getElem?_eq_some_iff.1 hx).1
      have hi' := (List.getElem?_eq_some_iff.1 hy).1
      have hxm : x ∈ l := List.mem_of_getElem? hx
      rw [round_slEqI_1]
      simp (disch := omega) only [lt_d, ge0_d, Int.toNat_natCast, blt_d, ble_self, beq_self, decide_true, cond_true, Bool.and_self, Bool.and_true, Bool.true_and, gd_true, Nat.zero_add, List.getD_cons_zero, List.getD_cons_succ, isI_int, toI_int, isB_bool, toB_bool, eL_T, arr_ln, arr_fn, arr_wd, arr_is, arr_get, hi, hi', atL_of hx, atL_of hy, rowI, wrapS, int_eq, int_ne, bool_ne, bool_eq, bytes_eq, cond_tf, cond_bf, Bool.and_true, dec_and, chain]
      try simp only [hxy]
    · rw [round_slEqI_1]
      simp only [lt_d, Nat.lt_irrefl, decide_false, cond_false]
  · rw [decide_eq_false (by omega)]
    have : ¬ l = r := fun e => hh (by rw [e])
    rw [decide_eq_false this]
    rfl
theorem s_slEqI : EntOk prog i_slEqI e_slEqI := ent_ok ea_slEqI_inj fun x hx =>
  body_sound (φ := (tabS [])) tabS_nil mixed (kp := kp_slEqI) (n := x.1.length + 1) func84 (c := bodyOf F_slEqI) (by kernel_rfl) (body_slEqI x.1 x.2 hx) (name_ok (by kernel_rfl))
def ok_l7Same (x : List Int × List Int) : Prop := x.1.length ≤ LM
def ea_l7Same (x : List Int × List Int) : List Arg := [aT (eI x.1), aT (eI x.2)]
def f_l7Same (x : List Int × List Int) : Bool := decide (x.1 = x.2)
noncomputable def e_l7Same : Ent := ent [] ok_l7Same ea_l7Same (erB 2) f_l7Same
theorem ea_l7Same_inj (x y : List Int × List Int) (h : ea_l7Same x = ea_l7Same y) : x = y := by
  obtain ⟨l1, r1⟩ := x
  obtain ⟨l2, r2⟩ := y
  simp only [ea_l7Same, List.cons.injEq, and_true, true_and] at h
  obtain ⟨e0, e1⟩ := h
  obtain rfl := eI_inj (aT_inj e0)
  obtain rfl := eI_inj (aT_inj e1)
  rfl
theorem dm_l7Same {l : List Int} {r : List Int} (h : ok_l7Same (l, r)) : dom ok_l7Same ea_l7Same [(0, false, [C.tr false (T.arr 1 l.length (atL rowI l))]), (0, false, [C.tr false (T.arr 1 r.length (atL rowI r))])] = true := dom_ea (ea := ea_l7Same) (x := (l, r)) h
theorem iv_l7Same {l : List Int} {r : List Int} (h : ok_l7Same (l, r)) : inv ok_l7Same ea_l7Same [(0, false, [C.tr false (T.arr 1 l.length (atL rowI l))]), (0, false, [C.tr false (T.arr 1 r.length (atL rowI r))])] = (l, r) := inv_ea ea_l7Same_inj (x := (l, r)) h
theorem d_l7Same (l : List Int) (r : List Int) : f_l7Same (l, r) = decide (l = r) := rfl
def i_l7Same : Nat := 80
noncomputable abbrev F_l7Same : Func := f80
def kp_l7Same : List (Nat × List Nat) := [(0, [0, 4]), (1, [0, 4, 40]), (2, [16]), (3, [0, 4, 20]), (4, [0, 4, 20, 56]), (5, [0, 4, 20]), (6, [0, 4, 20, 100]), (7, [16]), (8, [16])]
def ts_l7Same : List Nat := [0, 0]
def st_l7Same_1 (l : List Int) (r : List Int) (x20 : Int) : St := [(0, ⟨z0, [(false, [.tr false (.arr (1) (l.length) (atL rowI l))])]⟩), (4, ⟨z0, [(false, [.tr false (.arr (1) (r.length) (atL rowI r))])]⟩), (20, ⟨z0, [(false, [.tr true (T.int IntKind.i64 x20)])]⟩)]
def ex_l7Same_1_1 (l : List Int) (r : List Int) (x20 : Int) : St := [(16, ⟨z0, [(false, [.tr true (T.bool false)])]⟩)]
def ex_l7Same_1_2 (l : List Int) (r : List Int) (x20 : Int) : St := [(0, ⟨z0, [(false, [.tr false (.arr (1) (l.length) (atL rowI l))])]⟩), (4, ⟨z0, [(false, [.tr false (.arr (1) (r.length) (atL rowI r))])]⟩), (20, ⟨z0, [(false, [.tr true (T.int IntKind.i64 x20)])]⟩), (56, ⟨z0, []⟩)]
theorem round_l7Same_1 (l : List Int) (r : List Int) (x20 : Int) (n : Nat) (K : Ex → St → Res) : roundAt prog (tabS []) kp_l7Same F_l7Same [1, 1, 0, 1, 0] n (st_l7Same_1 l r x20) K = (
 bif decide (x20 < (↑l.length : Int)) then
  gd (decide (0 ≤ x20) && (x20.toNat.blt l.length && true)) <|
  gd (T.isI IntKind.i64 (atL rowI l x20.toNat 0)) <|
  gd (decide (0 ≤ x20) && (x20.toNat.blt r.length && true)) <|
  gd (T.isI IntKind.i64 (atL rowI r x20.toNat 0)) <|
  bif (atL rowI l x20.toNat 0).toI != (atL rowI r x20.toNat 0).toI then
   K .ret (ex_l7Same_1_1 l r x20)
  else
  K .normal (st_l7Same_1 l r (IntKind.i64.wrap (x20 + 1)))
 else
 K (.exit 0) (ex_l7Same_1_2 l r x20)) := by kernel_rfl
theorem post_l7Same_1_1 (l : List Int) (r : List Int) (x20 : Int) (n : Nat) : contAt prog (tabS []) kp_l7Same F_l7Same ts_l7Same [1, 1, 0, 1, 0] [] n .ret (ex_l7Same_1_1 l r x20) = (
 some ([(false, [.tr true (T.bool false)])], [(false, []), (false, [])])) := by kernel_rfl
theorem post_l7Same_1_2 (l : List Int) (r : List Int) (x20 : Int) (n : Nat) : contAt prog (tabS []) kp_l7Same F_l7Same ts_l7Same [1, 1, 0, 1, 0] [] n (.exit 0) (ex_l7Same_1_2 l r x20) = (
 some ([(false, [.tr true (T.bool true)])], [(false, []), (false, [])])) := by kernel_rfl
theorem pre_l7Same (l : List Int) (r : List Int) (n : Nat) : body prog (tabS []) kp_l7Same n F_l7Same [aT (eI l), aT (eI r)] = (
 bif (↑l.length : Int) != (↑r.length : Int) then
  some ([(false, [.tr true (T.bool false)])], [(false, []), (false, [])])
 else
 loopAt prog (tabS []) kp_l7Same F_l7Same [1, 1, 0, 1, 0] n n (st_l7Same_1 l r (0)) (contAt prog (tabS []) kp_l7Same F_l7Same ts_l7Same [1, 1, 0, 1, 0] [] n)) := by kernel_rfl
theorem body_l7Same (l : List Int) (r : List Int) (h : ok_l7Same (l, r)) : body prog (tabS []) kp_l7Same (l.length + 1) F_l7Same (ea_l7Same (l, r)) = some (erB 2 (f_l7Same (l, r))) := by
  have hlm := lm
  have hl' : l.length ≤ LM := h
  unfold ea_l7Same f_l7Same
  try dsimp only
  rw [pre_l7Same, int_ne]
  by_cases hh : l.length = r.length
  · rw [decide_eq_true (by omega)]
    simp only [Bool.not_true, cond_false]
    have hst : st_l7Same_1 l r 0 = (fun i : Nat => st_l7Same_1 l r (i : Nat)) 0 := rfl
    rw [hst, eqS l r hh (fun i : Nat => st_l7Same_1 l r (i : Nat)) (fun i : Nat => ex_l7Same_1_1 l r (i : Nat)) (ex_l7Same_1_2 l r l.length) (fun i x y K hx hy => ?_) (fun K => ?_) (fun i => post_l7Same_1_1 l r _ _) (post_l7Same_1_2 l r _ _) _ (Nat.le_refl _)]
    · by_cases e : l = r
      · rw [if_pos e, decide_eq_true e]; rfl
      · rw [if_neg e, decide_eq_false e]; rfl
    · have hi := (List.getElem?_eq_some_iff.1 hx).1
      have hi' := (List.getElem?_eq_some_iff.1 hy).1
      have hxm : x ∈ l := List.mem_of_getElem? hx
      rw [round_l7Same_1]
      simp (disch := omega) only [lt_d, ge0_d, Int.toNat_natCast, blt_d, ble_self, beq_self, decide_true, cond_true, Bool.and_self, Bool.and_true, Bool.true_and, gd_true, Nat.zero_add, List.getD_cons_zero, List.getD_cons_succ, isI_int, toI_int, isB_bool, toB_bool, eL_T, arr_ln, arr_fn, arr_wd, arr_is, arr_get, hi, hi', atL_of hx, atL_of hy, rowI, wrapS, int_eq, int_ne, bool_ne, bool_eq, bytes_eq, cond_tf, cond_bf, Bool.and_true, dec_and, chain]
      try simp only [hxy]
    · rw [round_l7Same_1]
      simp only [lt_d, Nat.lt_irrefl, decide_false, cond_false]
  · rw [decide_eq_false (by omega)]
    have : ¬ l = r := fun e => hh (by rw [e])
    rw [decide_eq_false this]
    rfl
theorem s_l7Same : EntOk prog i_l7Same e_l7Same := ent_ok ea_l7Same_inj fun x hx =>
  body_sound (φ := (tabS [])) tabS_nil mixed (kp := kp_l7Same) (n := x.1.length + 1) func80 (c := bodyOf F_l7Same) (by kernel_rfl) (body_l7Same x.1 x.2 hx) (name_ok (by kernel_rfl))
def ok_slEqH (x : List Hd × List Hd) : Prop := x.1.length ≤ LM
def ea_slEqH (x : List Hd × List Hd) : List Arg := [aT (eL 2 Hd.cs x.1), aT (eL 2 Hd.cs x.2)]
def f_slEqH (x : List Hd × List Hd) : Bool := decide (x.1 = x.2)
noncomputable def e_slEqH : Ent := ent [] ok_slEqH ea_slEqH (erB 2) f_slEqH
theorem ea_slEqH_inj (x y : List Hd × List Hd) (h : ea_slEqH x = ea_slEqH y) : x = y := by
  obtain ⟨l1, r1⟩ := x
  obtain ⟨l2, r2⟩ := y
  simp only [ea_slEqH, List.cons.injEq, and_true, true_and] at h
  obtain ⟨e0, e1⟩ := h
  obtain rfl := eL_inj Hd.cs_inj (aT_inj e0)
  obtain rfl := eL_inj Hd.cs_inj (aT_inj e1)
  rfl
theorem dm_slEqH {l : List Hd} {r : List Hd} (h : ok_slEqH (l, r)) : dom ok_slEqH ea_slEqH [(0, false, [C.tr false (T.arr 2 l.length (atL Hd.cs l))]), (0, false, [C.tr false (T.arr 2 r.length (atL Hd.cs r))])] = true := dom_ea (ea := ea_slEqH) (x := (l, r)) h
theorem iv_slEqH {l : List Hd} {r : List Hd} (h : ok_slEqH (l, r)) : inv ok_slEqH ea_slEqH [(0, false, [C.tr false (T.arr 2 l.length (atL Hd.cs l))]), (0, false, [C.tr false (T.arr 2 r.length (atL Hd.cs r))])] = (l, r) := inv_ea ea_slEqH_inj (x := (l, r)) h
theorem d_slEqH (l : List Hd) (r : List Hd) : f_slEqH (l, r) = decide (l = r) := rfl
def i_slEqH : Nat := 114
noncomputable abbrev F_slEqH : Func := f114
def kp_slEqH : List (Nat × List Nat) := [(0, [0, 4]), (1, [0, 4, 40]), (2, [16]), (3, [0, 4, 48, 52]), (4, [0, 4, 48, 52, 56]), (5, [0, 4, 20, 48, 52]), (6, [0, 4, 48, 52, 96]), (7, [16]), (8, [0, 4, 48, 52]), (9, [16])]
def ts_slEqH : List Nat := [0, 0]
def st_slEqH_1 (l : List Hd) (r : List Hd) (x52 : Int) : St := [(0, ⟨z0, [(false, [.tr false (eL 2 Hd.cs l)])]⟩), (4, ⟨z0, [(false, [.tr false (eL 2 Hd.cs r)])]⟩), (48, ⟨z0, [(false, [.tr true (T.int IntKind.i64 (↑l.length : Int))])]⟩), (52, ⟨z0, [(false, [.tr true (T.int IntKind.i64 x52)])]⟩)]
def ex_slEqH_1_1 (l : List Hd) (r : List Hd) (x52 : Int) : St := [(16, ⟨z0, [(false, [.tr true (T.bool false)])]⟩)]
def ex_slEqH_1_2 (l : List Hd) (r : List Hd) (x52 : Int) : St := [(0, ⟨z0, [(false, [.tr false (eL 2 Hd.cs l)])]⟩), (4, ⟨z0, [(false, [.tr false (eL 2 Hd.cs r)])]⟩), (48, ⟨z0, [(false, [.tr true (T.int IntKind.i64 (↑l.length : Int))])]⟩), (52, ⟨z0, [(false, [.tr true (T.int IntKind.i64 x52)])]⟩), (56, ⟨z0, []⟩)]
theorem round_slEqH_1 (l : List Hd) (r : List Hd) (x52 : Int) (n : Nat) (K : Ex → St → Res) : roundAt prog (tabS []) kp_slEqH F_slEqH [1, 1, 0, 1, 0] n (st_slEqH_1 l r x52) K = (
 bif decide (x52 < (↑l.length : Int)) then
  gd (decide (0 ≤ x52) && (x52.toNat.blt l.length && true)) <|
  gd (T.isI IntKind.i64 (atL Hd.cs l x52.toNat 0) && T.isI IntKind.i64 (atL Hd.cs l x52.toNat 1)) <|
  gd (decide (0 ≤ x52) && (x52.toNat.blt r.length && true)) <|
  gd (T.isI IntKind.i64 (atL Hd.cs r x52.toNat 0) && T.isI IntKind.i64 (atL Hd.cs r x52.toNat 1)) <|
  bif !bif (atL Hd.cs l x52.toNat 0).toI == (atL Hd.cs r x52.toNat 0).toI then
    bif (atL Hd.cs l x52.toNat 1).toI == (atL Hd.cs r x52.toNat 1).toI then true else false
  else false then
   K .ret (ex_slEqH_1_1 l r x52)
  else
  K .normal (st_slEqH_1 l r (IntKind.i64.wrap (x52 + 1)))
 else
 K (.exit 0) (ex_slEqH_1_2 l r x52)) := by kernel_rfl
theorem post_slEqH_1_1 (l : List Hd) (r : List Hd) (x52 : Int) (n : Nat) : contAt prog (tabS []) kp_slEqH F_slEqH ts_slEqH [1, 1, 0, 1, 0] [] n .ret (ex_slEqH_1_1 l r x52) = (
 some ([(false, [.tr true (T.bool false)])], [(false, []), (false, [])])) := by kernel_rfl
theorem post_slEqH_1_2 (l : List Hd) (r : List Hd) (x52 : Int) (n : Nat) : contAt prog (tabS []) kp_slEqH F_slEqH ts_slEqH [1, 1, 0, 1, 0] [] n (.exit 0) (ex_slEqH_1_2 l r x52) = (
 some ([(false, [.tr true (T.bool true)])], [(false, []), (false, [])])) := by kernel_rfl
theorem pre_slEqH (l : List Hd) (r : List Hd) (n : Nat) : body prog (tabS []) kp_slEqH n F_slEqH [aT (eL 2 Hd.cs l), aT (eL 2 Hd.cs r)] = (
 bif (↑l.length : Int) != (↑r.length : Int) then
  some ([(false, [.tr true (T.bool false)])], [(false, []), (false, [])])
 else
 loopAt prog (tabS []) kp_slEqH F_slEqH [1, 1, 0, 1, 0] n n (st_slEqH_1 l r (0)) (contAt prog (tabS []) kp_slEqH F_slEqH ts_slEqH [1, 1, 0, 1, 0] [] n)) := by kernel_rfl
theorem body_slEqH (l : List Hd) (r : List Hd) (h : ok_slEqH (l, r)) : body prog (tabS []) kp_slEqH (l.length + 1) F_slEqH (ea_slEqH (l, r)) = some (erB 2 (f_slEqH (l, r))) := by
  have hlm := lm
  have hl' : l.length ≤ LM := h
  unfold ea_slEqH f_slEqH
  try dsimp only
  rw [pre_slEqH, int_ne]
  by_cases hh : l.length = r.length
  · rw [decide_eq_true (by omega)]
    simp only [Bool.not_true, cond_false]
    have hst : st_slEqH_1 l r 0 = (fun i : Nat => st_slEqH_1 l r (i : Nat)) 0 := rfl
    rw [hst, eqS l r hh (fun i : Nat => st_slEqH_1 l r (i : Nat)) (fun i : Nat => ex_slEqH_1_1 l r (i : Nat)) (ex_slEqH_1_2 l r l.length) (fun i x y K hx hy => ?_) (fun K => ?_) (fun i => post_slEqH_1_1 l r _ _) (post_slEqH_1_2 l r _ _) _ (Nat.le_refl _)]
    · by_cases e : l = r
      · rw [if_pos e, decide_eq_true e]; rfl
      · rw [if_neg e, decide_eq_false e]; rfl
    · have hi := (List.getElem?_eq_some_iff.1 hx).1
      have hi' := (List.getElem?_eq_some_iff.1 hy).1
      have hxm : x ∈ l := List.mem_of_getElem? hx
      rw [round_slEqH_1]
      simp (disch := omega) only [lt_d, ge0_d, Int.toNat_natCast, blt_d, ble_self, beq_self, decide_true, cond_true, Bool.and_self, Bool.and_true, Bool.true_and, gd_true, Nat.zero_add, List.getD_cons_zero, List.getD_cons_succ, isI_int, toI_int, isB_bool, toB_bool, eL_T, arr_ln, arr_fn, arr_wd, arr_is, arr_get, hi, hi', atL_of hx, atL_of hy, Hd.cs, wrapS, int_eq, int_ne, bool_ne, bool_eq, bytes_eq, cond_tf, cond_bf, Bool.and_true, dec_and, chain]
      have hxy : (x.slot = y.slot ∧ x.gen = y.gen) ↔ x = y := by
        rcases x with ⟨x0, x1⟩
        rcases y with ⟨y0, y1⟩
        simp [and_assoc]
      try simp only [hxy]
    · rw [round_slEqH_1]
      simp only [lt_d, Nat.lt_irrefl, decide_false, cond_false]
  · rw [decide_eq_false (by omega)]
    have : ¬ l = r := fun e => hh (by rw [e])
    rw [decide_eq_false this]
    rfl
theorem s_slEqH : EntOk prog i_slEqH e_slEqH := ent_ok ea_slEqH_inj fun x hx =>
  body_sound (φ := (tabS [])) tabS_nil mixed (kp := kp_slEqH) (n := x.1.length + 1) func114 (c := bodyOf F_slEqH) (by kernel_rfl) (body_slEqH x.1 x.2 hx) (name_ok (by kernel_rfl))
def i_sameRoom1 : Nat := 116
noncomputable abbrev F_sameRoom1 : Func := f116
def kp_sameRoom1 : List (Nat × List Nat) := [(0, [8, 9, 12, 13]), (1, [16])]
noncomputable def e_sameRoom1 : Ent := inl [0, 0] prog (tabS [(i_bEq, e_bEq)]) kp_sameRoom1 0 F_sameRoom1
theorem s_sameRoom1 : EntOk prog i_sameRoom1 e_sameRoom1 := inl_ok (tabS_cons s_bEq tabS_nil) mixed (c := bodyOf F_sameRoom1) func116 (by kernel_rfl) (name_ok (by kernel_rfl))
def ok_efSf (x : List Sf × List Sf) : Prop := x.1.length ≤ LM
def ea_efSf (x : List Sf × List Sf) : List Arg := [aT (eL 1 Sf.cs x.1), aT (eL 1 Sf.cs x.2), aG i_sameRoom1]
def f_efSf (x : List Sf × List Sf) : Bool := decide (x.1 = x.2)
noncomputable def e_efSf : Ent := ent [] ok_efSf ea_efSf (erB 3) f_efSf
theorem ea_efSf_inj (x y : List Sf × List Sf) (h : ea_efSf x = ea_efSf y) : x = y := by
  obtain ⟨l1, r1⟩ := x
  obtain ⟨l2, r2⟩ := y
  simp only [ea_efSf, List.cons.injEq, and_true, true_and] at h
  obtain ⟨e0, e1⟩ := h
  obtain rfl := eL_inj Sf.cs_inj (aT_inj e0)
  obtain rfl := eL_inj Sf.cs_inj (aT_inj e1)
  rfl
theorem dm_efSf {l : List Sf} {r : List Sf} (h : ok_efSf (l, r)) : dom ok_efSf ea_efSf [(0, false, [C.tr false (T.arr 1 l.length (atL Sf.cs l))]), (0, false, [C.tr false (T.arr 1 r.length (atL Sf.cs r))]), (0, false, [C.fn 116 []])] = true := dom_ea (ea := ea_efSf) (x := (l, r)) h
theorem iv_efSf {l : List Sf} {r : List Sf} (h : ok_efSf (l, r)) : inv ok_efSf ea_efSf [(0, false, [C.tr false (T.arr 1 l.length (atL Sf.cs l))]), (0, false, [C.tr false (T.arr 1 r.length (atL Sf.cs r))]), (0, false, [C.fn 116 []])] = (l, r) := inv_ea ea_efSf_inj (x := (l, r)) h
theorem d_efSf (l : List Sf) (r : List Sf) : f_efSf (l, r) = decide (l = r) := rfl
def i_efSf : Nat := 115
noncomputable abbrev F_efSf : Func := f115
def kp_efSf : List (Nat × List Nat) := [(0, [0, 4, 8]), (1, [0, 4, 8, 56]), (2, [24]), (3, [0, 4, 8, 60, 64, 68]), (4, [0, 4, 8, 60, 64, 68, 72]), (5, [0, 4, 8, 28, 32, 33, 60, 64, 68, 80, 84]), (6, [0, 4, 8, 32, 33, 36, 37, 60, 64, 68, 80, 84, 88, 92, 96, 100]), (7, [0, 4, 8, 60, 64, 68, 120]), (8, [24]), (9, [0, 4, 8, 60, 64, 68]), (10, [24])]
def ts_efSf : List Nat := [0, 0, 0]
def st_efSf_1 (l : List Sf) (r : List Sf) (x68 : Int) : St := [(0, ⟨z0, [(false, [.tr false (eL 1 Sf.cs l)])]⟩), (4, ⟨z0, [(false, [.tr false (eL 1 Sf.cs r)])]⟩), (8, ⟨z0, [(false, [(C.fn 116 [])])]⟩), (60, ⟨z0, [(false, [.tr false (eL 1 Sf.cs l)])]⟩), (64, ⟨z0, [(false, [.tr true (T.int IntKind.i64 (↑l.length : Int))])]⟩), (68, ⟨z0, [(false, [.tr true (T.int IntKind.i64 x68)])]⟩)]
def ex_efSf_1_1 (l : List Sf) (r : List Sf) (x68 : Int) : St := [(24, ⟨z0, [(false, [.tr true (T.bool false)])]⟩)]
def ex_efSf_1_2 (l : List Sf) (r : List Sf) (x68 : Int) : St := [(0, ⟨z0, [(false, [.tr false (eL 1 Sf.cs l)])]⟩), (4, ⟨z0, [(false, [.tr false (eL 1 Sf.cs r)])]⟩), (8, ⟨z0, [(false, [(C.fn 116 [])])]⟩), (60, ⟨z0, [(false, [.tr false (eL 1 Sf.cs l)])]⟩), (64, ⟨z0, [(false, [.tr true (T.int IntKind.i64 (↑l.length : Int))])]⟩), (68, ⟨z0, [(false, [.tr true (T.int IntKind.i64 x68)])]⟩), (72, ⟨z0, []⟩)]
theorem round_efSf_1 (l : List Sf) (r : List Sf) (x68 : Int) (n : Nat) (K : Ex → St → Res) : roundAt prog (tabS [(i_sameRoom1, e_sameRoom1)]) kp_efSf F_efSf [1, 1, 0, 1, 0] n (st_efSf_1 l r x68) K = (
 bif decide (x68 < (↑l.length : Int)) then
  gd (decide (0 ≤ x68) && (x68.toNat.blt l.length && true)) <|
  gd ((atL Sf.cs l x68.toNat 0).isArr && (atL Sf.cs l x68.toNat 0).wd.beq 1) <|
  gd (decide (0 ≤ x68) && (x68.toNat.blt r.length && true)) <|
  gd ((atL Sf.cs r x68.toNat 0).isArr && (atL Sf.cs r x68.toNat 0).wd.beq 1) <|
  gd (allU8 (atL Sf.cs l x68.toNat 0).ln (atL Sf.cs l x68.toNat 0).fn) <|
  gd (allU8 (atL Sf.cs r x68.toNat 0).ln (atL Sf.cs r x68.toNat 0).fn) <|
  bif !(strOfNums (numsOf (atL Sf.cs l x68.toNat 0).ln (atL Sf.cs l x68.toNat 0).fn)).toList ==
    (strOfNums (numsOf (atL Sf.cs r x68.toNat 0).ln (atL Sf.cs r x68.toNat 0).fn)).toList then
   K .ret (ex_efSf_1_1 l r x68)
  else
  K .normal (st_efSf_1 l r (IntKind.i64.wrap (x68 + 1)))
 else
 K (.exit 0) (ex_efSf_1_2 l r x68)) := by kernel_rfl
theorem post_efSf_1_1 (l : List Sf) (r : List Sf) (x68 : Int) (n : Nat) : contAt prog (tabS [(i_sameRoom1, e_sameRoom1)]) kp_efSf F_efSf ts_efSf [1, 1, 0, 1, 0] [] n .ret (ex_efSf_1_1 l r x68) = (
 some ([(false, [.tr true (T.bool false)])], [(false, []), (false, []), (false, [])])) := by kernel_rfl
theorem post_efSf_1_2 (l : List Sf) (r : List Sf) (x68 : Int) (n : Nat) : contAt prog (tabS [(i_sameRoom1, e_sameRoom1)]) kp_efSf F_efSf ts_efSf [1, 1, 0, 1, 0] [] n (.exit 0) (ex_efSf_1_2 l r x68) = (
 some ([(false, [.tr true (T.bool true)])], [(false, []), (false, []), (false, [])])) := by kernel_rfl
theorem pre_efSf (l : List Sf) (r : List Sf) (n : Nat) : body prog (tabS [(i_sameRoom1, e_sameRoom1)]) kp_efSf n F_efSf [aT (eL 1 Sf.cs l), aT (eL 1 Sf.cs r), aG i_sameRoom1] = (
 bif (↑l.length : Int) != (↑r.length : Int) then
  some ([(false, [.tr true (T.bool false)])], [(false, []), (false, []), (false, [])])
 else
 loopAt prog (tabS [(i_sameRoom1, e_sameRoom1)]) kp_efSf F_efSf [1, 1, 0, 1, 0] n n (st_efSf_1 l r (0)) (contAt prog (tabS [(i_sameRoom1, e_sameRoom1)]) kp_efSf F_efSf ts_efSf [1, 1, 0, 1, 0] [] n)) := by kernel_rfl
theorem body_efSf (l : List Sf) (r : List Sf) (h : ok_efSf (l, r)) : body prog (tabS [(i_sameRoom1, e_sameRoom1)]) kp_efSf (l.length + 1) F_efSf (ea_efSf (l, r)) = some (erB 3 (f_efSf (l, r))) := by
  have hlm := lm
  have hl' : l.length ≤ LM := h
  unfold ea_efSf f_efSf
  try dsimp only
  rw [pre_efSf, int_ne]
  by_cases hh : l.length = r.length
  · rw [decide_eq_true (by omega)]
    simp only [Bool.not_true, cond_false]
    have hst : st_efSf_1 l r 0 = (fun i : Nat => st_efSf_1 l r (i : Nat)) 0 := rfl
    rw [hst, eqS l r hh (fun i : Nat => st_efSf_1 l r (i : Nat)) (fun i : Nat => ex_efSf_1_1 l r (i : Nat)) (ex_efSf_1_2 l r l.length) (fun i x y K hx hy => ?_) (fun K => ?_) (fun i => post_efSf_1_1 l r _ _) (post_efSf_1_2 l r _ _) _ (Nat.le_refl _)]
    · by_cases e : l = r
      · rw [if_pos e, decide_eq_true e]; rfl
      · rw [if_neg e, decide_eq_false e]; rfl
    · have hi := (List.getElem?_eq_some_iff.1 hx).1
      have hi' := (List.getElem?_eq_some_iff.1 hy).1
      have hxm : x ∈ l := List.mem_of_getElem? hx
      rw [round_efSf_1]
      simp (disch := omega) only [lt_d, ge0_d, Int.toNat_natCast, blt_d, ble_self, beq_self, decide_true, cond_true, Bool.and_self, Bool.and_true, Bool.true_and, gd_true, Nat.zero_add, List.getD_cons_zero, List.getD_cons_succ, isI_int, toI_int, isB_bool, toB_bool, eL_T, arr_ln, arr_fn, arr_wd, arr_is, arr_get, hi, hi', atL_of hx, atL_of hy, Sf.cs, wrapS, int_eq, int_ne, bool_ne, bool_eq, bytes_eq, cond_tf, cond_bf, Bool.and_true, dec_and, chain, allU8_B, str_B]
      have hxy : (x.b = y.b) ↔ x = y := by
        rcases x with ⟨x0⟩
        rcases y with ⟨y0⟩
        simp [and_assoc]
      try simp only [hxy]
    · rw [round_efSf_1]
      simp only [lt_d, Nat.lt_irrefl, decide_false, cond_false]
  · rw [decide_eq_false (by omega)]
    have : ¬ l = r := fun e => hh (by rw [e])
    rw [decide_eq_false this]
    rfl
theorem s_efSf : EntOk prog i_efSf e_efSf := ent_ok ea_efSf_inj fun x hx =>
  body_sound (φ := (tabS [(i_sameRoom1, e_sameRoom1)])) (tabS_cons s_sameRoom1 tabS_nil) mixed (kp := kp_efSf) (n := x.1.length + 1) func115 (c := bodyOf F_efSf) (by kernel_rfl) (body_efSf x.1 x.2 hx) (name_ok (by kernel_rfl))
end Go.Mach.F