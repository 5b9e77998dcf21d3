/- SameModel. Conditions: none. -/
import Derived.Test.YtphbidnhhhgmjaaJb
set_option linter.all false
namespace Go.Mach.F
open Go Go.Mach Go.Proofs.Try
--=set_option maxRecDepth 100000
def ok_efRm (x : List Rm × List Rm) : Prop := x.1.length ≤ LM ∧ ∀ z ∈ x.1, z.kids.length ≤ LM ∧ z.things.length ≤ LM ∧ z.tags.length ≤ LM
def ea_efRm (x : List Rm × List Rm) : List Arg := [aT (eL 11 Rm.cs x.1), aT (eL 11 Rm.cs x.2), aG i_sameRm]
def f_efRm (x : List Rm × List Rm) : Bool := decide (x.1 = x.2)
noncomputable def e_efRm : Ent := ent [] ok_efRm ea_efRm (erB 3) f_efRm
theorem ea_efRm_inj (x y : List Rm × List Rm) (h : ea_efRm x = ea_efRm y) : x = y := by
  obtain ⟨l1, r1⟩ := x
  obtain ⟨l2, r2⟩ := y
  simp only [ea_efRm, List.cons.injEq, and_true, true_and] at h
  obtain ⟨e0, e1⟩ := h
  obtain rfl := eL_inj Rm.cs_inj (aT_inj e0)
  obtain rfl := eL_inj Rm.cs_inj (aT_inj e1)
  rfl
theorem dm_efRm {l : List Rm} {r : List Rm} (h : ok_efRm (l, r)) : dom ok_efRm ea_efRm [(0, false, [C.tr false (T.arr 11 l.length (atL Rm.cs l))]), (0, false, [C.tr false (T.arr 11 r.length (atL Rm.cs r))]), (0, false, [C.fn 83 []])] = true := dom_ea (ea := ea_efRm) (x := (l, r)) h
theorem iv_efRm {l : List Rm} {r : List Rm} (h : ok_efRm (l, r)) : inv ok_efRm ea_efRm [(0, false, [C.tr false (T.arr 11 l.length (atL Rm.cs l))]), (0, false, [C.tr false (T.arr 11 r.length (atL Rm.cs r))]), (0, false, [C.fn 83 []])] = (l, r) := inv_ea ea_efRm_inj (x := (l, r)) h
theorem d_efRm (l : List Rm) (r : List Rm) : f_efRm (l, r) = decide (l = r) := rfl
def i_efRm : Nat := 82
noncomputable abbrev F_efRm : Func := f82
def kp_efRm : List (Nat × List Nat) := [(0, [0, 4, 8]), (1, [0, 4, 8, 56]), (2, [24]), (3, [0, 4, 8, 60, 64, 68]), (4, [0, 4, 8, 60, 64, 68, 72]), (5, [0, 4, 8, 28, 32, 33, 60, 64, 68, 80, 84]), (6, [0, 4, 8, 32, 33, 36, 37, 60, 64, 68, 80, 84, 88, 92, 96, 100]), (7, [0, 4, 8, 60, 64, 68, 120]), (8, [24]), (9, [0, 4, 8, 60, 64, 68]), (10, [24])]
def ts_efRm : List Nat := [0, 0, 0]
def st_efRm_1 (l : List Rm) (r : List Rm) (x68 : Int) : St := [(0, ⟨z0, [(false, [.tr false (eL 11 Rm.cs l)])]⟩), (4, ⟨z0, [(false, [.tr false (eL 11 Rm.cs r)])]⟩), (8, ⟨z0, [(false, [(C.fn 83 [])])]⟩), (60, ⟨z0, [(false, [.tr false (eL 11 Rm.cs l)])]⟩), (64, ⟨z0, [(false, [.tr true (T.int IntKind.i64 (↑l.length : Int))])]⟩), (68, ⟨z0, [(false, [.tr true (T.int IntKind.i64 x68)])]⟩)]
def ex_efRm_1_1 (l : List Rm) (r : List Rm) (x68 : Int) : St := [(24, ⟨z0, [(false, [.tr true (T.bool false)])]⟩)]
def ex_efRm_1_2 (l : List Rm) (r : List Rm) (x68 : Int) : St := [(0, ⟨z0, [(false, [.tr false (eL 11 Rm.cs l)])]⟩), (4, ⟨z0, [(false, [.tr false (eL 11 Rm.cs r)])]⟩), (8, ⟨z0, [(false, [(C.fn 83 [])])]⟩), (60, ⟨z0, [(false, [.tr false (eL 11 Rm.cs l)])]⟩), (64, ⟨z0, [(false, [.tr true (T.int IntKind.i64 (↑l.length : Int))])]⟩), (68, ⟨z0, [(false, [.tr true (T.int IntKind.i64 x68)])]⟩), (72, ⟨z0, []⟩)]
theorem round_efRm_1 (l : List Rm) (r : List Rm) (x68 : Int) (n : Nat) (K : Ex → St → Res) : roundAt prog (tabS [(i_sameRm, e_sameRm)]) kp_efRm F_efRm [1, 1, 0, 1, 0] n (st_efRm_1 l r x68) K = (
 bif decide (x68 < (↑l.length : Int)) then
  gd (decide (0 ≤ x68) && (x68.toNat.blt l.length && true)) <|
  gd (T.isI IntKind.i64 (atL Rm.cs l x68.toNat 0) && T.isI IntKind.i64 (atL Rm.cs l x68.toNat 1) &&
                  T.isI IntKind.i64 (atL Rm.cs l x68.toNat 2) &&
                T.isI IntKind.i64 (atL Rm.cs l x68.toNat 3) &&
              ((atL Rm.cs l x68.toNat 4).isArr && (atL Rm.cs l x68.toNat 4).wd.beq 2) &&
            T.isI IntKind.i64 (atL Rm.cs l x68.toNat 5) &&
          T.isI IntKind.i64 (atL Rm.cs l x68.toNat 6) &&
        (atL Rm.cs l x68.toNat 7).isB &&
      T.isI IntKind.i64 (atL Rm.cs l x68.toNat 8) &&
    ((atL Rm.cs l x68.toNat 9).isArr && (atL Rm.cs l x68.toNat 9).wd.beq 1) &&
  ((atL Rm.cs l x68.toNat 10).isArr && (atL Rm.cs l x68.toNat 10).wd.beq 1)) <|
  gd (decide (0 ≤ x68) && (x68.toNat.blt r.length && true)) <|
  gd (T.isI IntKind.i64 (atL Rm.cs r x68.toNat 0) && T.isI IntKind.i64 (atL Rm.cs r x68.toNat 1) &&
                  T.isI IntKind.i64 (atL Rm.cs r x68.toNat 2) &&
                T.isI IntKind.i64 (atL Rm.cs r x68.toNat 3) &&
              ((atL Rm.cs r x68.toNat 4).isArr && (atL Rm.cs r x68.toNat 4).wd.beq 2) &&
            T.isI IntKind.i64 (atL Rm.cs r x68.toNat 5) &&
          T.isI IntKind.i64 (atL Rm.cs r x68.toNat 6) &&
        (atL Rm.cs r x68.toNat 7).isB &&
      T.isI IntKind.i64 (atL Rm.cs r x68.toNat 8) &&
    ((atL Rm.cs r x68.toNat 9).isArr && (atL Rm.cs r x68.toNat 9).wd.beq 1) &&
  ((atL Rm.cs r x68.toNat 10).isArr && (atL Rm.cs r x68.toNat 10).wd.beq 1)) <|
  gd (dom ok_sameRm ea_sameRm
  [(0, true,
      [C.tr false (T.int IntKind.i64 (atL Rm.cs l x68.toNat 0).toI),
        C.tr false (T.int IntKind.i64 (atL Rm.cs l x68.toNat 1).toI),
        C.tr false (T.int IntKind.i64 (atL Rm.cs l x68.toNat 2).toI),
        C.tr false (T.int IntKind.i64 (atL Rm.cs l x68.toNat 3).toI),
        C.tr false (T.arr 2 (atL Rm.cs l x68.toNat 4).ln (atL Rm.cs l x68.toNat 4).fn),
        C.tr false (T.int IntKind.i64 (atL Rm.cs l x68.toNat 5).toI),
        C.tr false (T.int IntKind.i64 (atL Rm.cs l x68.toNat 6).toI),
        C.tr false (T.bool (atL Rm.cs l x68.toNat 7).toB),
        C.tr false (T.int IntKind.i64 (atL Rm.cs l x68.toNat 8).toI),
        C.tr false (T.arr 1 (atL Rm.cs l x68.toNat 9).ln (atL Rm.cs l x68.toNat 9).fn),
        C.tr false (T.arr 1 (atL Rm.cs l x68.toNat 10).ln (atL Rm.cs l x68.toNat 10).fn)]),
    (0, true,
      [C.tr false (T.int IntKind.i64 (atL Rm.cs r x68.toNat 0).toI),
        C.tr false (T.int IntKind.i64 (atL Rm.cs r x68.toNat 1).toI),
        C.tr false (T.int IntKind.i64 (atL Rm.cs r x68.toNat 2).toI),
        C.tr false (T.int IntKind.i64 (atL Rm.cs r x68.toNat 3).toI),
        C.tr false (T.arr 2 (atL Rm.cs r x68.toNat 4).ln (atL Rm.cs r x68.toNat 4).fn),
        C.tr false (T.int IntKind.i64 (atL Rm.cs r x68.toNat 5).toI),
        C.tr false (T.int IntKind.i64 (atL Rm.cs r x68.toNat 6).toI),
        C.tr false (T.bool (atL Rm.cs r x68.toNat 7).toB),
        C.tr false (T.int IntKind.i64 (atL Rm.cs r x68.toNat 8).toI),
        C.tr false (T.arr 1 (atL Rm.cs r x68.toNat 9).ln (atL Rm.cs r x68.toNat 9).fn),
        C.tr false (T.arr 1 (atL Rm.cs r x68.toNat 10).ln (atL Rm.cs r x68.toNat 10).fn)])]) <|
  bif !f_sameRm
    (inv ok_sameRm ea_sameRm
      [(0, true,
          [C.tr false (T.int IntKind.i64 (atL Rm.cs l x68.toNat 0).toI),
            C.tr false (T.int IntKind.i64 (atL Rm.cs l x68.toNat 1).toI),
            C.tr false (T.int IntKind.i64 (atL Rm.cs l x68.toNat 2).toI),
            C.tr false (T.int IntKind.i64 (atL Rm.cs l x68.toNat 3).toI),
            C.tr false (T.arr 2 (atL Rm.cs l x68.toNat 4).ln (atL Rm.cs l x68.toNat 4).fn),
            C.tr false (T.int IntKind.i64 (atL Rm.cs l x68.toNat 5).toI),
            C.tr false (T.int IntKind.i64 (atL Rm.cs l x68.toNat 6).toI),
            C.tr false (T.bool (atL Rm.cs l x68.toNat 7).toB),
            C.tr false (T.int IntKind.i64 (atL Rm.cs l x68.toNat 8).toI),
            C.tr false (T.arr 1 (atL Rm.cs l x68.toNat 9).ln (atL Rm.cs l x68.toNat 9).fn),
            C.tr false (T.arr 1 (atL Rm.cs l x68.toNat 10).ln (atL Rm.cs l x68.toNat 10).fn)]),
        (0, true,
          [C.tr false (T.int IntKind.i64 (atL Rm.cs r x68.toNat 0).toI),
            C.tr false (T.int IntKind.i64 (atL Rm.cs r x68.toNat 1).toI),
            C.tr false (T.int IntKind.i64 (atL Rm.cs r x68.toNat 2).toI),
            C.tr false (T.int IntKind.i64 (atL Rm.cs r x68.toNat 3).toI),
            C.tr false (T.arr 2 (atL Rm.cs r x68.toNat 4).ln (atL Rm.cs r x68.toNat 4).fn),
            C.tr false (T.int IntKind.i64 (atL Rm.cs r x68.toNat 5).toI),
            C.tr false (T.int IntKind.i64 (atL Rm.cs r x68.toNat 6).toI),
            C.tr false (T.bool (atL Rm.cs r x68.toNat 7).toB),
            C.tr false (T.int IntKind.i64 (atL Rm.cs r x68.toNat 8).toI),
            C.tr false (T.arr 1 (atL Rm.cs r x68.toNat 9).ln (atL Rm.cs r x68.toNat 9).fn),
            C.tr false (T.arr 1 (atL Rm.cs r x68.toNat 10).ln (atL Rm.cs r x68.toNat 10).fn)])]) then
   K .ret (ex_efRm_1_1 l r x68)
  else
  K .normal (st_efRm_1 l r (IntKind.i64.wrap (x68 + 1)))
 else
 K (.exit 0) (ex_efRm_1_2 l r x68)) := by kernel_rfl
theorem post_efRm_1_1 (l : List Rm) (r : List Rm) (x68 : Int) (n : Nat) : contAt prog (tabS [(i_sameRm, e_sameRm)]) kp_efRm F_efRm ts_efRm [1, 1, 0, 1, 0] [] n .ret (ex_efRm_1_1 l r x68) = (
 some ([(false, [.tr true (T.bool false)])], [(false, []), (false, []), (false, [])])) := by kernel_rfl
theorem post_efRm_1_2 (l : List Rm) (r : List Rm) (x68 : Int) (n : Nat) : contAt prog (tabS [(i_sameRm, e_sameRm)]) kp_efRm F_efRm ts_efRm [1, 1, 0, 1, 0] [] n (.exit 0) (ex_efRm_1_2 l r x68) = (
 some ([(false, [.tr true (T.bool true)])], [(false, []), (false, []), (false, [])])) := by kernel_rfl
theorem pre_efRm (l : List Rm) (r : List Rm) (n : Nat) : body prog (tabS [(i_sameRm, e_sameRm)]) kp_efRm n F_efRm [aT (eL 11 Rm.cs l), aT (eL 11 Rm.cs r), aG i_sameRm] = (
 bif (↑l.length : Int) != (↑r.length : Int) then
  some ([(false, [.tr true (T.bool false)])], [(false, []), (false, []), (false, [])])
 else
 loopAt prog (tabS [(i_sameRm, e_sameRm)]) kp_efRm F_efRm [1, 1, 0, 1, 0] n n (st_efRm_1 l r (0)) (contAt prog (tabS [(i_sameRm, e_sameRm)]) kp_efRm F_efRm ts_efRm [1, 1, 0, 1, 0] [] n)) := by kernel_rfl
theorem body_efRm (l : List Rm) (r : List Rm) (h : ok_efRm (l, r)) : body prog (tabS [(i_sameRm, e_sameRm)]) kp_efRm (l.length + 1) F_efRm (ea_efRm (l, r)) = some (erB 3 (f_efRm (l, r))) := by
  have hlm := lm
  have hl' : l.length ≤ LM := h.1
  unfold ea_efRm f_efRm
  try dsimp only
  rw [pre_efRm, int_ne]
  by_cases hh : l.length = r.length
  · rw [decide_eq_true (by omega)]
    simp only [Bool.not_true, cond_false]
    have hst : st_efRm_1 l r 0 = (fun i : Nat => st_efRm_1 l r (i : Nat)) 0 := rfl
    rw [hst, eqS l r hh (fun i : Nat => st_efRm_1 l r (i : Nat)) (fun i : Nat => ex_efRm_1_1 l r (i : Nat)) (ex_efRm_1_2 l r l.length) (fun i x y K hx hy => ?_) (fun K => ?_) (fun i => post_efRm_1_1 l r _ _) (post_efRm_1_2 l r _ _) _ (Nat.le_refl _)]
    · by_cases e : l = r
      · rw [if_pos e, decide_eq_true e]; rfl
      · rw [if_neg e, decide_eq_false e]; rfl
    · have hi := (List.getElem?_eq_some_iff.1 hx).1
      have hi' := (List.getElem?_eq_some_iff.1 hy).1
      have hxm : x ∈ l := List.mem_of_getElem? hx
      rw [round_efRm_1]
      have c : ok_sameRm (x, y) := h.2 x hxm
      simp (disch := omega) only [lt_d, ge0_d, Int.toNat_natCast, blt_d, ble_self, beq_self, decide_true, cond_true, Bool.and_self, Bool.and_true, Bool.true_and, gd_true, Nat.zero_add, List.getD_cons_zero, List.getD_cons_succ, isI_int, toI_int, isB_bool, toB_bool, eL_T, arr_ln, arr_fn, arr_wd, arr_is, arr_get, hi, hi', atL_of hx, atL_of hy, Rm.cs, wrapS, int_eq, int_ne, bool_ne, bool_eq, bytes_eq, cond_tf, cond_bf, Bool.and_true, dec_and, chain, dm_sameRm c, iv_sameRm c, d_sameRm]

    · rw [round_efRm_1]
      simp only [lt_d, Nat.lt_irrefl, decide_false, cond_false]
  · rw [decide_eq_false (by omega)]
    have : ¬ l = r := fun e => hh (by rw [e])
    rw [decide_eq_false this]
    rfl
theorem s_efRm : EntOk prog i_efRm e_efRm := ent_ok ea_efRm_inj fun x hx =>
  body_sound (φ := (tabS [(i_sameRm, e_sameRm)])) (tabS_cons s_sameRm tabS_nil) mixed (kp := kp_efRm) (n := x.1.length + 1) func82 (c := bodyOf F_efRm) (by kernel_rfl) (body_efRm x.1 x.2 hx) (name_ok (by kernel_rfl))
def ok_iSameModel (x : Ml × Ml) : Prop := (x.1.rooms.length ≤ LM ∧ ∀ z ∈ x.1.rooms, z.kids.length ≤ LM ∧ z.things.length ≤ LM ∧ z.tags.length ≤ LM) ∧ x.1.log.length ≤ LM
def ea_iSameModel (x : Ml × Ml) : List Arg := [aR x.1.cs, aR x.2.cs]
def f_iSameModel (x : Ml × Ml) : Bool := decide (x.1 = x.2)
noncomputable def e_iSameModel : Ent := ent [] ok_iSameModel ea_iSameModel (erB 2) f_iSameModel
theorem ea_iSameModel_inj (x y : Ml × Ml) (h : ea_iSameModel x = ea_iSameModel y) : x = y := by
  obtain ⟨a1, b1⟩ := x
  obtain ⟨a2, b2⟩ := y
  simp only [ea_iSameModel, List.cons.injEq, and_true, true_and] at h
  obtain ⟨e0, e1⟩ := h
  obtain rfl := Ml.cs_ext (aR_inj e0)
  obtain rfl := Ml.cs_ext (aR_inj e1)
  rfl
theorem dm_iSameModel {a : Ml} {b : Ml} (h : ok_iSameModel (a, b)) : dom ok_iSameModel ea_iSameModel [(0, true, [C.tr false (T.int IntKind.i64 a.c.chunks), C.tr false (T.int IntKind.i64 a.c.size), C.tr false (T.int IntKind.i64 a.c.slots), C.tr false (T.int IntKind.i64 a.c.tax), C.tr false (T.int IntKind.i64 a.c.slice), C.tr false (T.int IntKind.i64 a.c.gens), C.tr false (T.arr 11 a.rooms.length (atL Rm.cs a.rooms)), C.tr false (T.arr 1 a.log.length (atL rowI a.log))]), (0, true, [C.tr false (T.int IntKind.i64 b.c.chunks), C.tr false (T.int IntKind.i64 b.c.size), C.tr false (T.int IntKind.i64 b.c.slots), C.tr false (T.int IntKind.i64 b.c.tax), C.tr false (T.int IntKind.i64 b.c.slice), C.tr false (T.int IntKind.i64 b.c.gens), C.tr false (T.arr 11 b.rooms.length (atL Rm.cs b.rooms)), C.tr false (T.arr 1 b.log.length (atL rowI b.log))])] = true := dom_ea (ea := ea_iSameModel) (x := (a, b)) h
theorem iv_iSameModel {a : Ml} {b : Ml} (h : ok_iSameModel (a, b)) : inv ok_iSameModel ea_iSameModel [(0, true, [C.tr false (T.int IntKind.i64 a.c.chunks), C.tr false (T.int IntKind.i64 a.c.size), C.tr false (T.int IntKind.i64 a.c.slots), C.tr false (T.int IntKind.i64 a.c.tax), C.tr false (T.int IntKind.i64 a.c.slice), C.tr false (T.int IntKind.i64 a.c.gens), C.tr false (T.arr 11 a.rooms.length (atL Rm.cs a.rooms)), C.tr false (T.arr 1 a.log.length (atL rowI a.log))]), (0, true, [C.tr false (T.int IntKind.i64 b.c.chunks), C.tr false (T.int IntKind.i64 b.c.size), C.tr false (T.int IntKind.i64 b.c.slots), C.tr false (T.int IntKind.i64 b.c.tax), C.tr false (T.int IntKind.i64 b.c.slice), C.tr false (T.int IntKind.i64 b.c.gens), C.tr false (T.arr 11 b.rooms.length (atL Rm.cs b.rooms)), C.tr false (T.arr 1 b.log.length (atL rowI b.log))])] = (a, b) := inv_ea ea_iSameModel_inj (x := (a, b)) h
theorem d_iSameModel (a : Ml) (b : Ml) : f_iSameModel (a, b) = decide (a = b) := rfl
def i_iSameModel : Nat := 40
noncomputable abbrev F_iSameModel : Func := f40
def kp_iSameModel : List (Nat × List Nat) := [(0, [8, 9, 12, 13, 44, 48, 52, 56, 60, 72, 76, 80, 84, 88]), (1, [16])]
def ts_iSameModel : List Nat := [0, 0]
theorem pre_iSameModel (a : Ml) (b : Ml) (n : Nat) : body prog (tabS [(i_efRm, e_efRm), (i_slEqI, e_slEqI)]) kp_iSameModel n F_iSameModel [aR a.cs, aR b.cs] = (
 bif bif a.c.1 == b.c.1 then
  bif a.c.2 == b.c.2 then
    bif a.c.3 == b.c.3 then
      bif a.c.4 == b.c.4 then bif a.c.5 == b.c.5 then bif a.c.6 == b.c.6 then true else false else false
      else false
    else false
  else false
else false then
  gd (dom ok_efRm ea_efRm
  [(0, false, [C.tr false (eL 11 Rm.cs a.2)]), (0, false, [C.tr false (eL 11 Rm.cs b.2)]), (0, false, [C.fn 83 []])]) <|
  bif f_efRm
  (inv ok_efRm ea_efRm
    [(0, false, [C.tr false (eL 11 Rm.cs a.2)]), (0, false, [C.tr false (eL 11 Rm.cs b.2)]),
      (0, false, [C.fn 83 []])]) then
   gd (dom ok_slEqI ea_slEqI [(0, false, [C.tr false (eL 1 rowI a.3)]), (0, false, [C.tr false (eL 1 rowI b.3)])]) <|
   some ([(false, [.tr true (T.bool
  (f_slEqI
    (inv ok_slEqI ea_slEqI [(0, false, [C.tr false (eL 1 rowI a.3)]), (0, false, [C.tr false (eL 1 rowI b.3)])])))])], [(false, []), (false, [])])
  else
  some ([(false, [.tr true (T.bool false)])], [(false, []), (false, [])])
 else
 some ([(false, [.tr true (T.bool false)])], [(false, []), (false, [])])) := by kernel_rfl
theorem body_iSameModel (a : Ml) (b : Ml) (n : Nat) (h : ok_iSameModel (a, b)) : body prog (tabS [(i_efRm, e_efRm), (i_slEqI, e_slEqI)]) kp_iSameModel n F_iSameModel (ea_iSameModel (a, b)) = some (erB 2 (f_iSameModel (a, b))) := by
  have c0 : ok_efRm (a.rooms, b.rooms) := h.1
  have c2 : ok_slEqI (a.log, b.log) := h.2
  unfold ea_iSameModel f_iSameModel
  try dsimp only
  rw [pre_iSameModel]
  simp only [eL_T, dm_efRm c0, iv_efRm c0, d_efRm, dm_slEqI c2, iv_slEqI c2, d_slEqI, gd_true, int_eq, bytes_eq, bool_eq, Bool.and_true, cond_tf, cond_bf, dec_and, chainp]
  refine Eq.trans (fin_b fun b => some (erB 2 b)) ?_
  congr 2
  refine decide_eq_decide.2 ?_
  rcases a with ⟨⟨x0, x1, x2, x3, x4, x5⟩, x6, x7⟩
  rcases b with ⟨⟨y0, y1, y2, y3, y4, y5⟩, y6, y7⟩
  simp [and_assoc]
theorem s_iSameModel : EntOk prog i_iSameModel e_iSameModel := ent_ok ea_iSameModel_inj fun x hx =>
  body_sound (φ := (tabS [(i_efRm, e_efRm), (i_slEqI, e_slEqI)])) (tabS_cons s_efRm (tabS_cons s_slEqI tabS_nil)) mixed (kp := kp_iSameModel) (n := 0) func40 (c := bodyOf F_iSameModel) (by kernel_rfl) (body_iSameModel x.1 x.2 (0) hx) (name_ok (by kernel_rfl))
def ok_sSameModel (x : Ml × Ml) : Prop := (x.1.rooms.length ≤ LM ∧ ∀ z ∈ x.1.rooms, z.kids.length ≤ LM ∧ z.things.length ≤ LM ∧ z.tags.length ≤ LM) ∧ x.1.log.length ≤ LM
def ea_sSameModel (x : Ml × Ml) : List Arg := [aR x.1.cs, aR x.2.cs]
def f_sSameModel (x : Ml × Ml) : Bool := decide (x.1 = x.2)
noncomputable def e_sSameModel : Ent := ent [] ok_sSameModel ea_sSameModel (erB 2) f_sSameModel
theorem ea_sSameModel_inj (x y : Ml × Ml) (h : ea_sSameModel x = ea_sSameModel y) : x = y := by
  obtain ⟨a1, b1⟩ := x
  obtain ⟨a2, b2⟩ := y
  simp only [ea_sSameModel, List.cons.injEq, and_true, true_and] at h
  obtain ⟨e0, e1⟩ := h
  obtain rfl := Ml.cs_ext (aR_inj e0)
  obtain rfl := Ml.cs_ext (aR_inj e1)
  rfl
theorem dm_sSameModel {a : Ml} {b : Ml} (h : ok_sSameModel (a, b)) : dom ok_sSameModel ea_sSameModel [(0, true, [C.tr false (T.int IntKind.i64 a.c.chunks), C.tr false (T.int IntKind.i64 a.c.size), C.tr false (T.int IntKind.i64 a.c.slots), C.tr false (T.int IntKind.i64 a.c.tax), C.tr false (T.int IntKind.i64 a.c.slice), C.tr false (T.int IntKind.i64 a.c.gens), C.tr false (T.arr 11 a.rooms.length (atL Rm.cs a.rooms)), C.tr false (T.arr 1 a.log.length (atL rowI a.log))]), (0, true, [C.tr false (T.int IntKind.i64 b.c.chunks), C.tr false (T.int IntKind.i64 b.c.size), C.tr false (T.int IntKind.i64 b.c.slots), C.tr false (T.int IntKind.i64 b.c.tax), C.tr false (T.int IntKind.i64 b.c.slice), C.tr false (T.int IntKind.i64 b.c.gens), C.tr false (T.arr 11 b.rooms.length (atL Rm.cs b.rooms)), C.tr false (T.arr 1 b.log.length (atL rowI b.log))])] = true := dom_ea (ea := ea_sSameModel) (x := (a, b)) h
theorem iv_sSameModel {a : Ml} {b : Ml} (h : ok_sSameModel (a, b)) : inv ok_sSameModel ea_sSameModel [(0, true, [C.tr false (T.int IntKind.i64 a.c.chunks), C.tr false (T.int IntKind.i64 a.c.size), C.tr false (T.int IntKind.i64 a.c.slots), C.tr false (T.int IntKind.i64 a.c.tax), C.tr false (T.int IntKind.i64 a.c.slice), C.tr false (T.int IntKind.i64 a.c.gens), C.tr false (T.arr 11 a.rooms.length (atL Rm.cs a.rooms)), C.tr false (T.arr 1 a.log.length (atL rowI a.log))]), (0, true, [C.tr false (T.int IntKind.i64 b.c.chunks), C.tr false (T.int IntKind.i64 b.c.size), C.tr false (T.int IntKind.i64 b.c.slots), C.tr false (T.int IntKind.i64 b.c.tax), C.tr false (T.int IntKind.i64 b.c.slice), C.tr false (T.int IntKind.i64 b.c.gens), C.tr false (T.arr 11 b.rooms.length (atL Rm.cs b.rooms)), C.tr false (T.arr 1 b.log.length (atL rowI b.log))])] = (a, b) := inv_ea ea_sSameModel_inj (x := (a, b)) h
theorem d_sSameModel (a : Ml) (b : Ml) : f_sSameModel (a, b) = decide (a = b) := rfl
def i_sSameModel : Nat := 39
noncomputable abbrev F_sSameModel : Func := f39
def kp_sSameModel : List (Nat × List Nat) := [(0, [8, 9, 12, 13, 48, 52, 56, 60, 64, 68, 72, 84, 88, 92, 96, 100, 104]), (1, [8, 9, 12, 13, 108]), (2, [16]), (3, [8, 9, 12, 13, 20]), (4, [8, 9, 12, 13, 20, 128]), (5, [8, 9, 12, 13, 20]), (6, [8, 9, 12, 13, 20, 184]), (7, [16]), (8, [16])]
def ts_sSameModel : List Nat := [0, 0]
def st_sSameModel_1 (a : Ml) (b : Ml) (x20 : Int) : St := [(8, ⟨z0, [(false, [(C.pt (Pt.ptr 9 0 [] 8 0 0))])]⟩), (9, ⟨z0, [(true, [.tr true (T.int IntKind.i64 a.c.1), .tr true (T.int IntKind.i64 a.c.2), .tr true (T.int IntKind.i64 a.c.3), .tr true (T.int IntKind.i64 a.c.4), .tr true (T.int IntKind.i64 a.c.5), .tr true (T.int IntKind.i64 a.c.6), .tr false (eL 11 Rm.cs a.2), .tr false (eL 1 rowI a.3)])]⟩), (12, ⟨z0, [(false, [(C.pt (Pt.ptr 13 0 [] 8 0 0))])]⟩), (13, ⟨z0, [(true, [.tr true (T.int IntKind.i64 b.c.1), .tr true (T.int IntKind.i64 b.c.2), .tr true (T.int IntKind.i64 b.c.3), .tr true (T.int IntKind.i64 b.c.4), .tr true (T.int IntKind.i64 b.c.5), .tr true (T.int IntKind.i64 b.c.6), .tr false (eL 11 Rm.cs b.2), .tr false (eL 1 rowI b.3)])]⟩), (20, ⟨z0, [(false, [.tr true (T.int IntKind.i64 x20)])]⟩)]
def ex_sSameModel_1_1 (a : Ml) (b : Ml) (x20 : Int) : St := [(16, ⟨z0, [(false, [.tr true (T.bool false)])]⟩)]
def ex_sSameModel_1_2 (a : Ml) (b : Ml) (x20 : Int) : St := [(8, ⟨z0, [(false, [(C.pt (Pt.ptr 9 0 [] 8 0 0))])]⟩), (9, ⟨z0, [(true, [.tr true (T.int IntKind.i64 a.c.1), .tr true (T.int IntKind.i64 a.c.2), .tr true (T.int IntKind.i64 a.c.3), .tr true (T.int IntKind.i64 a.c.4), .tr true (T.int IntKind.i64 a.c.5), .tr true (T.int IntKind.i64 a.c.6), .tr false (eL 11 Rm.cs a.2), .tr false (eL 1 rowI a.3)])]⟩), (12, ⟨z0, [(false, [(C.pt (Pt.ptr 13 0 [] 8 0 0))])]⟩), (13, ⟨z0, [(true, [.tr true (T.int IntKind.i64 b.c.1), .tr true (T.int IntKind.i64 b.c.2), .tr true (T.int IntKind.i64 b.c.3), .tr true (T.int IntKind.i64 b.c.4), .tr true (T.int IntKind.i64 b.c.5), .tr true (T.int IntKind.i64 b.c.6), .tr false (eL 11 Rm.cs b.2), .tr false (eL 1 rowI b.3)])]⟩), (20, ⟨z0, [(false, [.tr true (T.int IntKind.i64 x20)])]⟩), (128, ⟨z0, []⟩)]
theorem round_sSameModel_1 (a : Ml) (b : Ml) (x20 : Int) (n : Nat) (K : Ex → St → Res) : roundAt prog (tabS [(i_l7Same, e_l7Same), (i_l24Same, e_l24Same)]) kp_sSameModel F_sSameModel [1, 1, 0, 1, 0] n (st_sSameModel_1 a b x20) K = (
 bif decide (x20 < (↑a.2.length : Int)) then
  gd (decide (0 ≤ x20) && (x20.toNat.blt a.2.length && true)) <|
  gd (T.isI IntKind.i64 (atL Rm.cs a.2 x20.toNat 0) && T.isI IntKind.i64 (atL Rm.cs a.2 x20.toNat 1) &&
                  T.isI IntKind.i64 (atL Rm.cs a.2 x20.toNat 2) &&
                T.isI IntKind.i64 (atL Rm.cs a.2 x20.toNat 3) &&
              ((atL Rm.cs a.2 x20.toNat 4).isArr && (atL Rm.cs a.2 x20.toNat 4).wd.beq 2) &&
            T.isI IntKind.i64 (atL Rm.cs a.2 x20.toNat 5) &&
          T.isI IntKind.i64 (atL Rm.cs a.2 x20.toNat 6) &&
        (atL Rm.cs a.2 x20.toNat 7).isB &&
      T.isI IntKind.i64 (atL Rm.cs a.2 x20.toNat 8) &&
    ((atL Rm.cs a.2 x20.toNat 9).isArr && (atL Rm.cs a.2 x20.toNat 9).wd.beq 1) &&
  ((atL Rm.cs a.2 x20.toNat 10).isArr && (atL Rm.cs a.2 x20.toNat 10).wd.beq 1)) <|
  gd (decide (0 ≤ x20) && (x20.toNat.blt b.2.length && true)) <|
  gd (T.isI IntKind.i64 (atL Rm.cs b.2 x20.toNat 0) && T.isI IntKind.i64 (atL Rm.cs b.2 x20.toNat 1) &&
                  T.isI IntKind.i64 (atL Rm.cs b.2 x20.toNat 2) &&
                T.isI IntKind.i64 (atL Rm.cs b.2 x20.toNat 3) &&
              ((atL Rm.cs b.2 x20.toNat 4).isArr && (atL Rm.cs b.2 x20.toNat 4).wd.beq 2) &&
            T.isI IntKind.i64 (atL Rm.cs b.2 x20.toNat 5) &&
          T.isI IntKind.i64 (atL Rm.cs b.2 x20.toNat 6) &&
        (atL Rm.cs b.2 x20.toNat 7).isB &&
      T.isI IntKind.i64 (atL Rm.cs b.2 x20.toNat 8) &&
    ((atL Rm.cs b.2 x20.toNat 9).isArr && (atL Rm.cs b.2 x20.toNat 9).wd.beq 1) &&
  ((atL Rm.cs b.2 x20.toNat 10).isArr && (atL Rm.cs b.2 x20.toNat 10).wd.beq 1)) <|
  gd (dom ok_l24Same ea_l24Same
  [(0, true,
      [C.tr false (T.int IntKind.i64 (atL Rm.cs a.2 x20.toNat 0).toI),
        C.tr false (T.int IntKind.i64 (atL Rm.cs a.2 x20.toNat 1).toI),
        C.tr false (T.int IntKind.i64 (atL Rm.cs a.2 x20.toNat 2).toI),
        C.tr false (T.int IntKind.i64 (atL Rm.cs a.2 x20.toNat 3).toI),
        C.tr false (T.arr 2 (atL Rm.cs a.2 x20.toNat 4).ln (atL Rm.cs a.2 x20.toNat 4).fn),
        C.tr false (T.int IntKind.i64 (atL Rm.cs a.2 x20.toNat 5).toI),
        C.tr false (T.int IntKind.i64 (atL Rm.cs a.2 x20.toNat 6).toI),
        C.tr false (T.bool (atL Rm.cs a.2 x20.toNat 7).toB),
        C.tr false (T.int IntKind.i64 (atL Rm.cs a.2 x20.toNat 8).toI),
        C.tr false (T.arr 1 (atL Rm.cs a.2 x20.toNat 9).ln (atL Rm.cs a.2 x20.toNat 9).fn),
        C.tr false (T.arr 1 (atL Rm.cs a.2 x20.toNat 10).ln (atL Rm.cs a.2 x20.toNat 10).fn)]),
    (0, true,
      [C.tr false (T.int IntKind.i64 (atL Rm.cs b.2 x20.toNat 0).toI),
        C.tr false (T.int IntKind.i64 (atL Rm.cs b.2 x20.toNat 1).toI),
        C.tr false (T.int IntKind.i64 (atL Rm.cs b.2 x20.toNat 2).toI),
        C.tr false (T.int IntKind.i64 (atL Rm.cs b.2 x20.toNat 3).toI),
        C.tr false (T.arr 2 (atL Rm.cs b.2 x20.toNat 4).ln (atL Rm.cs b.2 x20.toNat 4).fn),
        C.tr false (T.int IntKind.i64 (atL Rm.cs b.2 x20.toNat 5).toI),
        C.tr false (T.int IntKind.i64 (atL Rm.cs b.2 x20.toNat 6).toI),
        C.tr false (T.bool (atL Rm.cs b.2 x20.toNat 7).toB),
        C.tr false (T.int IntKind.i64 (atL Rm.cs b.2 x20.toNat 8).toI),
        C.tr false (T.arr 1 (atL Rm.cs b.2 x20.toNat 9).ln (atL Rm.cs b.2 x20.toNat 9).fn),
        C.tr false (T.arr 1 (atL Rm.cs b.2 x20.toNat 10).ln (atL Rm.cs b.2 x20.toNat 10).fn)])]) <|
  bif !f_l24Same
    (inv ok_l24Same ea_l24Same
      [(0, true,
          [C.tr false (T.int IntKind.i64 (atL Rm.cs a.2 x20.toNat 0).toI),
            C.tr false (T.int IntKind.i64 (atL Rm.cs a.2 x20.toNat 1).toI),
            C.tr false (T.int IntKind.i64 (atL Rm.cs a.2 x20.toNat 2).toI),
            C.tr false (T.int IntKind.i64 (atL Rm.cs a.2 x20.toNat 3).toI),
            C.tr false (T.arr 2 (atL Rm.cs a.2 x20.toNat 4).ln (atL Rm.cs a.2 x20.toNat 4).fn),
            C.tr false (T.int IntKind.i64 (atL Rm.cs a.2 x20.toNat 5).toI),
            C.tr false (T.int IntKind.i64 (atL Rm.cs a.2 x20.toNat 6).toI),
            C.tr false (T.bool (atL Rm.cs a.2 x20.toNat 7).toB),
            C.tr false (T.int IntKind.i64 (atL Rm.cs a.2 x20.toNat 8).toI),
            C.tr false (T.arr 1 (atL Rm.cs a.2 x20.toNat 9).ln (atL Rm.cs a.2 x20.toNat 9).fn),
            C.tr false (T.arr 1 (atL Rm.cs a.2 x20.toNat 10).ln (atL Rm.cs a.2 x20.toNat 10).fn)]),
        (0, true,
          [C.tr false (T.int IntKind.i64 (atL Rm.cs b.2 x20.toNat 0).toI),
            C.tr false (T.int IntKind.i64 (atL Rm.cs b.2 x20.toNat 1).toI),
            C.tr false (T.int IntKind.i64 (atL Rm.cs b.2 x20.toNat 2).toI),
            C.tr false (T.int IntKind.i64 (atL Rm.cs b.2 x20.toNat 3).toI),
            C.tr false (T.arr 2 (atL Rm.cs b.2 x20.toNat 4).ln (atL Rm.cs b.2 x20.toNat 4).fn),
            C.tr false (T.int IntKind.i64 (atL Rm.cs b.2 x20.toNat 5).toI),
            C.tr false (T.int IntKind.i64 (atL Rm.cs b.2 x20.toNat 6).toI),
            C.tr false (T.bool (atL Rm.cs b.2 x20.toNat 7).toB),
            C.tr false (T.int IntKind.i64 (atL Rm.cs b.2 x20.toNat 8).toI),
            C.tr false (T.arr 1 (atL Rm.cs b.2 x20.toNat 9).ln (atL Rm.cs b.2 x20.toNat 9).fn),
            C.tr false (T.arr 1 (atL Rm.cs b.2 x20.toNat 10).ln (atL Rm.cs b.2 x20.toNat 10).fn)])]) then
   K .ret (ex_sSameModel_1_1 a b x20)
  else
  K .normal (st_sSameModel_1 a b (IntKind.i64.wrap (x20 + 1)))
 else
 K (.exit 0) (ex_sSameModel_1_2 a b x20)) := by kernel_rfl
theorem post_sSameModel_1_1 (a : Ml) (b : Ml) (x20 : Int) (n : Nat) : contAt prog (tabS [(i_l7Same, e_l7Same), (i_l24Same, e_l24Same)]) kp_sSameModel F_sSameModel ts_sSameModel [1, 1, 0, 1, 0] [] n .ret (ex_sSameModel_1_1 a b x20) = (
 some ([(false, [.tr true (T.bool false)])], [(false, []), (false, [])])) := by kernel_rfl
theorem post_sSameModel_1_2 (a : Ml) (b : Ml) (x20 : Int) (n : Nat) : contAt prog (tabS [(i_l7Same, e_l7Same), (i_l24Same, e_l24Same)]) kp_sSameModel F_sSameModel ts_sSameModel [1, 1, 0, 1, 0] [] n (.exit 0) (ex_sSameModel_1_2 a b x20) = (
 some ([(false, [.tr true (T.bool true)])], [(false, []), (false, [])])) := by kernel_rfl
theorem pre_sSameModel (a : Ml) (b : Ml) (n : Nat) : body prog (tabS [(i_l7Same, e_l7Same), (i_l24Same, e_l24Same)]) kp_sSameModel n F_sSameModel [aR a.cs, aR b.cs] = (
 bif !bif a.c.1 == b.c.1 then
    bif a.c.2 == b.c.2 then
      bif a.c.3 == b.c.3 then
        bif a.c.4 == b.c.4 then bif a.c.5 == b.c.5 then bif a.c.6 == b.c.6 then true else false else false
        else false
      else false
    else false
  else false then
  some ([(false, [.tr true (T.bool false)])], [(false, []), (false, [])])
 else
 bif (↑a.2.length : Int) != (↑b.2.length : Int) then
  some ([(false, [.tr true (T.bool false)])], [(false, []), (false, [])])
 else
 gd (dom ok_l7Same ea_l7Same [(0, false, [C.tr false (eL 1 rowI a.3)]), (0, false, [C.tr false (eL 1 rowI b.3)])]) <|
 bif !f_l7Same
    (inv ok_l7Same ea_l7Same [(0, false, [C.tr false (eL 1 rowI a.3)]), (0, false, [C.tr false (eL 1 rowI b.3)])]) then
  some ([(false, [.tr true (T.bool false)])], [(false, []), (false, [])])
 else
 loopAt prog (tabS [(i_l7Same, e_l7Same), (i_l24Same, e_l24Same)]) kp_sSameModel F_sSameModel [1, 1, 0, 1, 0] n n (st_sSameModel_1 a b (0)) (contAt prog (tabS [(i_l7Same, e_l7Same), (i_l24Same, e_l24Same)]) kp_sSameModel F_sSameModel ts_sSameModel [1, 1, 0, 1, 0] [] n)) := by kernel_rfl
theorem body_sSameModel (a : Ml) (b : Ml) (h : ok_sSameModel (a, b)) : body prog (tabS [(i_l7Same, e_l7Same), (i_l24Same, e_l24Same)]) kp_sSameModel (a.rooms.length + 1) F_sSameModel (ea_sSameModel (a, b)) = some (erB 2 (f_sSameModel (a, b))) := by
  have hlm := lm
  have hl0 : a.rooms.length ≤ LM := h.1.1
  have c2 : ok_l7Same (a.log, b.log) := h.2
  unfold ea_sSameModel f_sSameModel
  try dsimp only
  rw [pre_sSameModel]
  simp only [eL_T, dm_l7Same c2, iv_l7Same c2, d_l7Same, gd_true, int_ne, int_eq, bool_eq, bool_ne, Bool.and_true, cond_tf, cond_bf, dec_and, chain, and_assoc]
  by_cases hP : a.c.chunks = b.c.chunks ∧ a.c.size = b.c.size ∧ a.c.slots = b.c.slots ∧ a.c.tax = b.c.tax ∧ a.c.slice = b.c.slice ∧ a.c.gens = b.c.gens ∧ (a.rooms.length : Int) = b.rooms.length ∧ a.log = b.log
  · simp only [decide_eq_true hP, Bool.not_true, cond_false]
    obtain ⟨h0, h1, h2, h3, h4, h5, h6, h7⟩ := hP
    rw [show st_sSameModel_1 a b 0 = (fun i : Nat => st_sSameModel_1 a b (i : Nat)) 0 from rfl, eqSj a.rooms b.rooms (by omega) (fun i : Nat => st_sSameModel_1 a b (i : Nat)) (fun i : Nat => ex_sSameModel_1_1 a b (i : Nat)) (ex_sSameModel_1_2 a b a.rooms.length) (fun i x y K hx hy => ?_) (fun K => ?_) (fun i => post_sSameModel_1_1 a b _ _) (post_sSameModel_1_2 a b _ _) _ (by omega)]
    rotate_left
    · have hi := (List.getElem?_eq_some_iff.1 hx).1
      have hi' := (List.getElem?_eq_some_iff.1 hy).1
      have hxm : x ∈ a.rooms := List.mem_of_getElem? hx
      rw [round_sSameModel_1]
      have c : ok_l24Same (x, y) := h.1.2 x hxm
      simp (disch := omega) only [lt_d, ge0_d, Int.toNat_natCast, blt_d, ble_self, beq_self, decide_true, cond_true, Bool.and_self, Bool.and_true, Bool.true_and, gd_true, Nat.zero_add, List.getD_cons_zero, List.getD_cons_succ, isI_int, toI_int, isB_bool, toB_bool, eL_T, arr_ln, arr_fn, arr_wd, arr_is, arr_get, hi, hi', atL_of hx, atL_of hy, Rm.cs, wrapS, int_eq, int_ne, bool_ne, bool_eq, bytes_eq, cond_tf, cond_bf, Bool.and_true, dec_and, chain, dm_l24Same c, iv_l24Same c, d_l24Same]

    · rw [round_sSameModel_1]
      simp only [lt_d, Nat.lt_irrefl, decide_false, cond_false]
    by_cases e1 : a.rooms = b.rooms
    · have : a = b := by
        rcases a with ⟨⟨x0, x1, x2, x3, x4, x5⟩, x6, x7⟩
        rcases b with ⟨⟨y0, y1, y2, y3, y4, y5⟩, y6, y7⟩
        simp_all
      rw [if_pos e1, decide_eq_true this]
      rfl
    · rw [if_neg e1, decide_eq_false (fun e => e1 (by rw [e]))]
      rfl
  · simp only [decide_eq_false hP, Bool.not_false, cond_true]
    rw [decide_eq_false (fun e => hP (by subst e; simp))]
    rfl
theorem s_sSameModel : EntOk prog i_sSameModel e_sSameModel := ent_ok ea_sSameModel_inj fun x hx =>
  body_sound (φ := (tabS [(i_l7Same, e_l7Same), (i_l24Same, e_l24Same)])) (tabS_cons s_l7Same (tabS_cons s_l24Same tabS_nil)) mixed (kp := kp_sSameModel) (n := x.1.rooms.length + 1) func39 (c := bodyOf F_sSameModel) (by kernel_rfl) (body_sSameModel x.1 x.2 hx) (name_ok (by kernel_rfl))
end Go.Mach.F