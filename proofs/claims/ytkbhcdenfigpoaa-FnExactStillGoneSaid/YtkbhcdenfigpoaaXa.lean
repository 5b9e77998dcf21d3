/- Rise. Conditions: none. -/
import Derived.Test.YtkbhcdenfigpoaaWa
set_option linter.all false
namespace Go.Mach.F
open Go Go.Mach Go.Proofs.Try
--=set_option maxRecDepth 100000
def riseN (l : List Nd) : Nat → Int → List Int
  | 0, _ => []
  | n + 1, k => match l[k.toNat]? with
    | some x => bif decide (0 ≤ k) then k :: riseN l n (IntKind.i64.wrap (x.up - 1)) else []
    | none => []
def inI (k : Int) : Prop := -9223372036854775808 ≤ k ∧ k ≤ 9223372036854775807
theorem inI_wrap (k : Int) : inI (IntKind.i64.wrap k) := by
  rw [IntKind.wrap_i64]
  unfold inI
  omega
theorem riseN_out {l : List Nd} {k : Int} (h : ¬ (0 ≤ k ∧ k < l.length)) (n : Nat) : riseN l n k = [] := by
  cases n with
  | zero => rfl
  | succ n =>
    unfold riseN
    by_cases h0 : 0 ≤ k
    · rw [List.getElem?_eq_none (by omega)]
    · cases l[k.toNat]? with
      | none => rfl
      | some x => simp only [decide_eq_false h0, cond_false]
theorem row1 (x : Int) (j k' : Nat) : (Option.rec (motive := fun _ => T) T.hole (fun val => val) ([[T.int IntKind.i64 x]].getD j [])[k']? : T) = rowsT [[T.int IntKind.i64 x]] j k' := by
  unfold rowsT
  generalize [[T.int IntKind.i64 x]].getD j [] = q
  rw [List.getD_eq_getElem?_getD]
  cases q[k']? <;> rfl
theorem app1 (out : List Int) (x : Int) : appF out.length (atL rowI out) (plainF (cutT 0 1 (rowsT [[T.int .i64 x]]))) = atL rowI (out ++ [x]) := by
  funext j k
  unfold appF
  rw [blt_d, Bool.cond_decide]
  by_cases h : j < out.length
  · rw [if_pos h]
    unfold atL
    rw [List.getElem?_append_left h]
  · rw [if_neg h]
    unfold atL
    rw [List.getElem?_append_right (by omega)]
    obtain ⟨d, hd⟩ : ∃ d, d = j - out.length := ⟨_, rfl⟩
    rw [← hd]
    cases d with
    | zero => cases k <;> rfl
    | succ d =>
      cases d <;> rfl
def i_within : Nat := 111
noncomputable abbrev F_within : Func := f111
def kp_within : List (Nat × List Nat) := [(0, [0, 4, 8, 44, 48, 52]), (1, [24])]
noncomputable def e_within : Ent := inl [] prog (tabS []) kp_within 0 F_within
theorem s_within : EntOk prog i_within e_within := inl_ok tabS_nil mixed (c := bodyOf F_within) func111 (by kernel_rfl) (name_ok (by kernel_rfl))
def i_isSlot : Nat := 195
noncomputable abbrev F_isSlot : Func := f195
def kp_isSlot : List (Nat × List Nat) := [(0, [0, 4]), (1, [16])]
noncomputable def e_isSlot : Ent := inl [] prog (tabS [(i_within, e_within)]) kp_isSlot 0 F_isSlot
theorem s_isSlot : EntOk prog i_isSlot e_isSlot := inl_ok (tabS_cons s_within tabS_nil) mixed (c := bodyOf F_isSlot) func195 (by kernel_rfl) (name_ok (by kernel_rfl))
def i_l9Place : Nat := 194
noncomputable abbrev F_l9Place : Func := f194
def kp_l9Place : List (Nat × List Nat) := [(0, [0, 4, 32, 36, 40, 44]), (1, [16])]
noncomputable def e_l9Place : Ent := inl [] prog (tabS []) kp_l9Place 0 F_l9Place
theorem s_l9Place : EntOk prog i_l9Place e_l9Place := inl_ok tabS_nil mixed (c := bodyOf F_l9Place) func194 (by kernel_rfl) (name_ok (by kernel_rfl))
def ok_iRise (x : List Nd × Int) : Prop := x.1.length ≤ LM ∧ inI x.2
def ea_iRise (x : List Nd × Int) : List Arg := [aT (eL 13 Nd.cs x.1), aI x.2]
def f_iRise (x : List Nd × Int) : List Int := riseN x.1 x.1.length x.2
noncomputable def e_iRise : Ent := ent [] ok_iRise ea_iRise (fun r => erT 2 (eI r)) f_iRise
theorem ea_iRise_inj (x y : List Nd × Int) (h : ea_iRise x = ea_iRise y) : x = y := by
  obtain ⟨l1, k1⟩ := x
  obtain ⟨l2, k2⟩ := y
  simp only [ea_iRise, List.cons.injEq, and_true, true_and] at h
  obtain ⟨e0, e1⟩ := h
  obtain rfl := eL_inj Nd.cs_inj (aT_inj e0)
  obtain rfl := aI_inj e1
  rfl
theorem dm_iRise {l : List Nd} {k : Int} (h : ok_iRise (l, k)) : dom ok_iRise ea_iRise [(0, false, [C.tr false (T.arr 13 l.length (atL Nd.cs l))]), (0, false, [C.tr false (T.int IntKind.i64 k)])] = true := dom_ea (ea := ea_iRise) (x := (l, k)) h
theorem iv_iRise {l : List Nd} {k : Int} (h : ok_iRise (l, k)) : inv ok_iRise ea_iRise [(0, false, [C.tr false (T.arr 13 l.length (atL Nd.cs l))]), (0, false, [C.tr false (T.int IntKind.i64 k)])] = (l, k) := inv_ea ea_iRise_inj (x := (l, k)) h
theorem d_iRise (l : List Nd) (k : Int) : f_iRise (l, k) = riseN l l.length k := rfl
def i_iRise : Nat := 180
noncomputable abbrev F_iRise : Func := f180
def kp_iRise : List (Nat × List Nat) := [(0, [0, 4]), (1, [0, 4, 20]), (2, [0, 4, 20, 64]), (3, [0, 4, 20]), (4, [0, 4, 20]), (5, [16])]
def ts_iRise : List Nat := [0, 0]
def st_iRise_1 (l : List Nd) (k : Int) (x4 : Int) (nx20 : Nat) (fx20 : Nat → Nat → T) : St := [(0, ⟨z0, [(false, [.tr false (eL 13 Nd.cs l)])]⟩), (4, ⟨z0, [(false, [.tr true (T.int IntKind.i64 x4)])]⟩), (20, ⟨z0, [(false, [.tr true (.arr (1) (nx20) (fx20))])]⟩)]
def ex_iRise_1_1 (l : List Nd) (k : Int) (x4 : Int) (nx20 : Nat) (fx20 : Nat → Nat → T) : St := [(0, ⟨z0, [(false, [.tr false (eL 13 Nd.cs l)])]⟩), (4, ⟨z0, [(false, [.tr true (T.int IntKind.i64 x4)])]⟩), (20, ⟨z0, [(false, [.tr true (.arr (1) (nx20) (fx20))])]⟩), (64, ⟨z0, []⟩)]
theorem round_iRise_1 (l : List Nd) (k : Int) (x4 : Int) (nx20 : Nat) (fx20 : Nat → Nat → T) (n : Nat) (K : Ex → St → Res) : roundAt prog (tabS [(i_isSlot, e_isSlot)]) kp_iRise F_iRise [1, 1, 0, 0] n (st_iRise_1 l k x4 nx20 fx20) K = (
 bif decide (0 ≤ x4) then
  bif decide (x4 ≤ IntKind.i64.wrap ((↑l.length : Int) - 1)) then
   bif decide ((↑nx20 : Int) < (↑l.length : Int)) then
    gd (nx20.ble nx20 && true) <|
    gd (((nx20 + 1) * 8).ble 70368744177664 && (nx20 + 1).ble 70368744177664) <|
    gd ((nx20 + 1).ble (nx20 + 1) && true) <|
    gd (decide (0 ≤ x4) && (x4.toNat.blt l.length && true)) <|
    gd (T.isI IntKind.i64 (atL Nd.cs l x4.toNat 3)) <|
    K .normal (st_iRise_1 l k (IntKind.i64.wrap ((atL Nd.cs l x4.toNat 3).toI - 1)) (nx20 + 1) (appF nx20 fx20
  (plainF
    (cutT 0 1 fun j k =>
      Option.rec ((fun _ => T.hole) ()) (fun val => (fun val => (fun x => x) val) val)
        ([[T.int IntKind.i64 x4]].getD j [])[k]?))))
   else
   K (.exit 0) (ex_iRise_1_1 l k x4 nx20 fx20)
  else
  K (.exit 0) (ex_iRise_1_1 l k x4 nx20 fx20)
 else
 K (.exit 0) (ex_iRise_1_1 l k x4 nx20 fx20)) := by kernel_rfl
theorem post_iRise_1_1 (l : List Nd) (k : Int) (x4 : Int) (nx20 : Nat) (fx20 : Nat → Nat → T) (n : Nat) : contAt prog (tabS [(i_isSlot, e_isSlot)]) kp_iRise F_iRise ts_iRise [1, 1, 0, 0] [] n (.exit 0) (ex_iRise_1_1 l k x4 nx20 fx20) = (
 gd (nx20.ble nx20 && true) <|
 gd (nx20.ble nx20 && true) <|
 some ([(false, [.tr true (.arr (1) (nx20) (fx20))])], [(false, []), (false, [])])) := by kernel_rfl
theorem pre_iRise (l : List Nd) (k : Int) (n : Nat) : body prog (tabS [(i_isSlot, e_isSlot)]) kp_iRise n F_iRise [aT (eL 13 Nd.cs l), aI k] = (
 loopAt prog (tabS [(i_isSlot, e_isSlot)]) kp_iRise F_iRise [1, 1, 0, 0] n n (st_iRise_1 l k (k) (0) (fun j k => T.hole)) (contAt prog (tabS [(i_isSlot, e_isSlot)]) kp_iRise F_iRise ts_iRise [1, 1, 0, 0] [] n)) := by kernel_rfl
theorem loop_iRise (l : List Nd) (k0 : Int) (hl : l.length ≤ LM) (n mm : Nat) : ∀ (r : Nat) (k : Int) (out : List Int), inI k → out.length + r = l.length →
    loopAt prog (tabS [(i_isSlot, e_isSlot)]) kp_iRise F_iRise [1, 1, 0, 0] n (r + 1 + mm) (st_iRise_1 l k0 k out.length (atL rowI out)) (contAt prog (tabS [(i_isSlot, e_isSlot)]) kp_iRise F_iRise ts_iRise [1, 1, 0, 0] [] n) = some (erT 2 (eI (out ++ riseN l r k))) := by
  have hlm := lm
  have fin : ∀ (k : Int) (out : List Int), contAt prog (tabS [(i_isSlot, e_isSlot)]) kp_iRise F_iRise ts_iRise [1, 1, 0, 0] [] n (.exit 0) (ex_iRise_1_1 l k0 k out.length (atL rowI out)) = some (erT 2 (eI (out ++ []))) := fun k out => by
    rw [post_iRise_1_1, List.append_nil]
    simp only [ble_d, Nat.le_refl, decide_true, Bool.and_true, gd_true]
    rfl
  intro r
  induction r with
  | zero =>
    intro k out hk hr
    have e1 : 0 + 1 + mm = mm + 1 := by omega
    rw [e1, loopAt_succ, round_iRise_1]
    simp only [lt_d, decide_eq_false (show ¬ out.length < l.length by omega), cond_false, Bool.cond_self]
    exact fin k out
  | succ r ih =>
    intro k out hk hr
    have e1 : r + 1 + 1 + mm = (r + 1 + mm) + 1 := by omega
    unfold inI at hk
    rw [e1, loopAt_succ, round_iRise_1]
    by_cases h : 0 ≤ k ∧ k < l.length
    · have hx := List.getElem?_eq_getElem (show k.toNat < l.length by omega)
      obtain ⟨x, hxe⟩ : ∃ x, x = l[k.toNat]'(by omega) := ⟨_, rfl⟩
      rw [← hxe] at hx
      have c1 : 0 ≤ k := by exact h.1
      have c2 : k ≤ IntKind.i64.wrap ((l.length : Int) - 1) := by rw [IntKind.wrap_i64]; omega
      have e3 : riseN l (r + 1) k = k :: riseN l r (IntKind.i64.wrap (x.up - 1)) := by simp only [riseN, hx, decide_eq_true h.1, cond_true]
      have hb : k.toNat < l.length := by omega
      have hs : (out.length + 1) * 8 ≤ 70368744177664 := by omega
      have hs2 : out.length + 1 ≤ 70368744177664 := by omega
      have ho : out.length < l.length := by omega
      have h00 := h.1
      simp only [lt_d, ge0_d, Int.toNat_natCast, blt_d, ble_self, beq_self, decide_true, cond_true, Bool.and_self, Bool.and_true, Bool.true_and, gd_true, Nat.zero_add, List.getD_cons_zero, List.getD_cons_succ, isI_int, toI_int, isB_bool, toB_bool, eL_T, arr_ln, arr_fn, arr_wd, arr_is, arr_get, ble_d, decide_eq_true c1, decide_eq_true c2, decide_eq_true h00, decide_eq_true hb, decide_eq_true ho, decide_eq_true hs, decide_eq_true hs2, Nat.le_refl, atL_of hx, Nd.cs]
      rw [e3]
      have := ih (IntKind.i64.wrap (x.up - 1)) (out ++ [k]) (inI_wrap _) (by simp; omega)
      rw [List.append_assoc] at this
      refine Eq.trans (congrArg (fun s => loopAt prog (tabS [(i_isSlot, e_isSlot)]) kp_iRise F_iRise [1, 1, 0, 0] n (r + 1 + mm) s _) ?_) this
      have ha := app1 out k
      have hrow : ∀ j k', (Option.rec (motive := fun _ => T) T.hole (fun val => val) ([[T.int IntKind.i64 k]].getD j [])[k']? : T) = rowsT [[T.int IntKind.i64 k]] j k' := fun j k' => by
        unfold rowsT
        generalize [[T.int IntKind.i64 k]].getD j [] = q
        rw [List.getD_eq_getElem?_getD]
        cases q[k']? <;> rfl
      rw [← ha, List.length_append]
      simp only [hrow]
      rfl
    · rw [riseN_out h]
      by_cases c1 : 0 ≤ k
      · have c2 : ¬ k ≤ IntKind.i64.wrap ((l.length : Int) - 1) := by rw [IntKind.wrap_i64]; omega
        simp only [decide_eq_true c1, decide_eq_false c2, cond_true, cond_false]
        exact fin k out
      · simp only [decide_eq_false c1, cond_false]
        exact fin k out
theorem body_iRise (l : List Nd) (k : Int) (h : ok_iRise (l, k)) : body prog (tabS [(i_isSlot, e_isSlot)]) kp_iRise (l.length + 1) F_iRise (ea_iRise (l, k)) = some (erT 2 (eI (f_iRise (l, k)))) := by
  unfold ea_iRise f_iRise
  dsimp only
  rw [pre_iRise]
  have := loop_iRise l k h.1 (l.length + 1) 0 l.length k [] h.2 (by simp)
  rw [List.nil_append] at this
  exact this

theorem s_iRise : EntOk prog i_iRise e_iRise := ent_ok ea_iRise_inj fun x hx =>
  body_sound (φ := (tabS [(i_isSlot, e_isSlot)])) (tabS_cons s_isSlot tabS_nil) mixed (kp := kp_iRise) (n := x.1.length + 1) func180 (c := bodyOf F_iRise) (by kernel_rfl) (body_iRise x.1 x.2 hx) (name_ok (by kernel_rfl))
def ok_sRise (x : List Nd × Int) : Prop := x.1.length ≤ LM ∧ inI x.2
def ea_sRise (x : List Nd × Int) : List Arg := [aT (eL 13 Nd.cs x.1), aI x.2]
def f_sRise (x : List Nd × Int) : List Int := riseN x.1 x.1.length x.2
noncomputable def e_sRise : Ent := ent [] ok_sRise ea_sRise (fun r => erT 2 (eI r)) f_sRise
theorem ea_sRise_inj (x y : List Nd × Int) (h : ea_sRise x = ea_sRise y) : x = y := by
  obtain ⟨l1, k1⟩ := x
  obtain ⟨l2, k2⟩ := y
  simp only [ea_sRise, List.cons.injEq, and_true, true_and] at h
  obtain ⟨e0, e1⟩ := h
  obtain rfl := eL_inj Nd.cs_inj (aT_inj e0)
  obtain rfl := aI_inj e1
  rfl
theorem dm_sRise {l : List Nd} {k : Int} (h : ok_sRise (l, k)) : dom ok_sRise ea_sRise [(0, false, [C.tr false (T.arr 13 l.length (atL Nd.cs l))]), (0, false, [C.tr false (T.int IntKind.i64 k)])] = true := dom_ea (ea := ea_sRise) (x := (l, k)) h
theorem iv_sRise {l : List Nd} {k : Int} (h : ok_sRise (l, k)) : inv ok_sRise ea_sRise [(0, false, [C.tr false (T.arr 13 l.length (atL Nd.cs l))]), (0, false, [C.tr false (T.int IntKind.i64 k)])] = (l, k) := inv_ea ea_sRise_inj (x := (l, k)) h
theorem d_sRise (l : List Nd) (k : Int) : f_sRise (l, k) = riseN l l.length k := rfl
def i_sRise : Nat := 178
noncomputable abbrev F_sRise : Func := f178
def kp_sRise : List (Nat × List Nat) := [(0, [0, 4]), (1, [0, 4, 20]), (2, [0, 4, 20, 68]), (3, [0, 4, 20]), (4, [0, 4, 20]), (5, [16])]
def ts_sRise : List Nat := [0, 0]
def st_sRise_1 (l : List Nd) (k : Int) (x4 : Int) (nx20 : Nat) (fx20 : Nat → Nat → T) : St := [(0, ⟨z0, [(false, [.tr false (eL 13 Nd.cs l)])]⟩), (4, ⟨z0, [(false, [.tr true (T.int IntKind.i64 x4)])]⟩), (20, ⟨z0, [(false, [.tr true (.arr (1) (nx20) (fx20))])]⟩)]
def ex_sRise_1_1 (l : List Nd) (k : Int) (x4 : Int) (nx20 : Nat) (fx20 : Nat → Nat → T) : St := [(0, ⟨z0, [(false, [.tr false (eL 13 Nd.cs l)])]⟩), (4, ⟨z0, [(false, [.tr true (T.int IntKind.i64 x4)])]⟩), (20, ⟨z0, [(false, [.tr true (.arr (1) (nx20) (fx20))])]⟩), (68, ⟨z0, []⟩)]
theorem round_sRise_1 (l : List Nd) (k : Int) (x4 : Int) (nx20 : Nat) (fx20 : Nat → Nat → T) (n : Nat) (K : Ex → St → Res) : roundAt prog (tabS [(i_l9Place, e_l9Place)]) kp_sRise F_sRise [1, 1, 0, 0] n (st_sRise_1 l k x4 nx20 fx20) K = (
 bif decide (1 ≤ IntKind.i64.wrap (x4 + 1)) then
  bif decide (IntKind.i64.wrap (x4 + 1) ≤ (↑l.length : Int)) then
   bif decide ((↑nx20 : Int) < (↑l.length : Int)) then
    gd (nx20.ble nx20 && true) <|
    gd (((nx20 + 1) * 8).ble 70368744177664 && (nx20 + 1).ble 70368744177664) <|
    gd ((nx20 + 1).ble (nx20 + 1) && true) <|
    gd (decide (0 ≤ x4) && (x4.toNat.blt l.length && true)) <|
    gd (T.isI IntKind.i64 (atL Nd.cs l x4.toNat 3)) <|
    K .normal (st_sRise_1 l k (IntKind.i64.wrap ((atL Nd.cs l x4.toNat 3).toI - 1)) (nx20 + 1) (appF nx20 fx20
  (plainF
    (cutT 0 1 fun j k =>
      Option.rec ((fun _ => T.hole) ()) (fun val => (fun val => (fun x => x) val) val)
        ([[T.int IntKind.i64 x4]].getD j [])[k]?))))
   else
   K (.exit 0) (ex_sRise_1_1 l k x4 nx20 fx20)
  else
  K (.exit 0) (ex_sRise_1_1 l k x4 nx20 fx20)
 else
 K (.exit 0) (ex_sRise_1_1 l k x4 nx20 fx20)) := by kernel_rfl
theorem post_sRise_1_1 (l : List Nd) (k : Int) (x4 : Int) (nx20 : Nat) (fx20 : Nat → Nat → T) (n : Nat) : contAt prog (tabS [(i_l9Place, e_l9Place)]) kp_sRise F_sRise ts_sRise [1, 1, 0, 0] [] n (.exit 0) (ex_sRise_1_1 l k x4 nx20 fx20) = (
 gd (nx20.ble nx20 && true) <|
 gd (nx20.ble nx20 && true) <|
 some ([(false, [.tr true (.arr (1) (nx20) (fx20))])], [(false, []), (false, [])])) := by kernel_rfl
theorem pre_sRise (l : List Nd) (k : Int) (n : Nat) : body prog (tabS [(i_l9Place, e_l9Place)]) kp_sRise n F_sRise [aT (eL 13 Nd.cs l), aI k] = (
 loopAt prog (tabS [(i_l9Place, e_l9Place)]) kp_sRise F_sRise [1, 1, 0, 0] n n (st_sRise_1 l k (k) (0) (fun j k => T.hole)) (contAt prog (tabS [(i_l9Place, e_l9Place)]) kp_sRise F_sRise ts_sRise [1, 1, 0, 0] [] n)) := by kernel_rfl
theorem loop_sRise (l : List Nd) (k0 : Int) (hl : l.length ≤ LM) (n mm : Nat) : ∀ (r : Nat) (k : Int) (out : List Int), inI k → out.length + r = l.length →
    loopAt prog (tabS [(i_l9Place, e_l9Place)]) kp_sRise F_sRise [1, 1, 0, 0] n (r + 1 + mm) (st_sRise_1 l k0 k out.length (atL rowI out)) (contAt prog (tabS [(i_l9Place, e_l9Place)]) kp_sRise F_sRise ts_sRise [1, 1, 0, 0] [] n) = some (erT 2 (eI (out ++ riseN l r k))) := by
  have hlm := lm
  have fin : ∀ (k : Int) (out : List Int), contAt prog (tabS [(i_l9Place, e_l9Place)]) kp_sRise F_sRise ts_sRise [1, 1, 0, 0] [] n (.exit 0) (ex_sRise_1_1 l k0 k out.length (atL rowI out)) = some (erT 2 (eI (out ++ []))) := fun k out => by
    rw [post_sRise_1_1, List.append_nil]
    simp only [ble_d, Nat.le_refl, decide_true, Bool.and_true, gd_true]
    rfl
  intro r
  induction r with
  | zero =>
    intro k out hk hr
    have e1 : 0 + 1 + mm = mm + 1 := by omega
    rw [e1, loopAt_succ, round_sRise_1]
    simp only [lt_d, decide_eq_false (show ¬ out.length < l.length by omega), cond_false, Bool.cond_self]
    exact fin k out
  | succ r ih =>
    intro k out hk hr
    have e1 : r + 1 + 1 + mm = (r + 1 + mm) + 1 := by omega
    unfold inI at hk
    rw [e1, loopAt_succ, round_sRise_1]
    by_cases h : 0 ≤ k ∧ k < l.length
    · have hx := List.getElem?_eq_getElem (show k.toNat < l.length by omega)
      obtain ⟨x, hxe⟩ : ∃ x, x = l[k.toNat]'(by omega) := ⟨_, rfl⟩
      rw [← hxe] at hx
      have c1 : 1 ≤ IntKind.i64.wrap (k + 1) := by rw [IntKind.wrap_i64]; omega
      have c2 : IntKind.i64.wrap (k + 1) ≤ (l.length : Int) := by rw [IntKind.wrap_i64]; omega
      have e3 : riseN l (r + 1) k = k :: riseN l r (IntKind.i64.wrap (x.up - 1)) := by simp only [riseN, hx, decide_eq_true h.1, cond_true]
      have hb : k.toNat < l.length := by omega
      have hs : (out.length + 1) * 8 ≤ 70368744177664 := by omega
      have hs2 : out.length + 1 ≤ 70368744177664 := by omega
      have ho : out.length < l.length := by omega
      have h00 := h.1
      simp only [lt_d, ge0_d, Int.toNat_natCast, blt_d, ble_self, beq_self, decide_true, cond_true, Bool.and_self, Bool.and_true, Bool.true_and, gd_true, Nat.zero_add, List.getD_cons_zero, List.getD_cons_succ, isI_int, toI_int, isB_bool, toB_bool, eL_T, arr_ln, arr_fn, arr_wd, arr_is, arr_get, ble_d, decide_eq_true c1, decide_eq_true c2, decide_eq_true h00, decide_eq_true hb, decide_eq_true ho, decide_eq_true hs, decide_eq_true hs2, Nat.le_refl, atL_of hx, Nd.cs]
      rw [e3]
      have := ih (IntKind.i64.wrap (x.up - 1)) (out ++ [k]) (inI_wrap _) (by simp; omega)
      rw [List.append_assoc] at this
      refine Eq.trans (congrArg (fun s => loopAt prog (tabS [(i_l9Place, e_l9Place)]) kp_sRise F_sRise [1, 1, 0, 0] n (r + 1 + mm) s _) ?_) this
      have ha := app1 out k
      have hrow : ∀ j k', (Option.rec (motive := fun _ => T) T.hole (fun val => val) ([[T.int IntKind.i64 k]].getD j [])[k']? : T) = rowsT [[T.int IntKind.i64 k]] j k' := fun j k' => by
        unfold rowsT
        generalize [[T.int IntKind.i64 k]].getD j [] = q
        rw [List.getD_eq_getElem?_getD]
        cases q[k']? <;> rfl
      rw [← ha, List.length_append]
      simp only [hrow]
      rfl
    · rw [riseN_out h]
      by_cases c1 : 1 ≤ IntKind.i64.wrap (k + 1)
      · have c2 : ¬ IntKind.i64.wrap (k + 1) ≤ (l.length : Int) := by rw [IntKind.wrap_i64] at c1 ⊢; omega
        simp only [decide_eq_true c1, decide_eq_false c2, cond_true, cond_false]
        exact fin k out
      · simp only [decide_eq_false c1, cond_false]
        exact fin k out
theorem body_sRise (l : List Nd) (k : Int) (h : ok_sRise (l, k)) : body prog (tabS [(i_l9Place, e_l9Place)]) kp_sRise (l.length + 1) F_sRise (ea_sRise (l, k)) = some (erT 2 (eI (f_sRise (l, k)))) := by
  unfold ea_sRise f_sRise
  dsimp only
  rw [pre_sRise]
  have := loop_sRise l k h.1 (l.length + 1) 0 l.length k [] h.2 (by simp)
  rw [List.nil_append] at this
  exact this

theorem s_sRise : EntOk prog i_sRise e_sRise := ent_ok ea_sRise_inj fun x hx =>
  body_sound (φ := (tabS [(i_l9Place, e_l9Place)])) (tabS_cons s_l9Place tabS_nil) mixed (kp := kp_sRise) (n := x.1.length + 1) func178 (c := bodyOf F_sRise) (by kernel_rfl) (body_sRise x.1 x.2 hx) (name_ok (by kernel_rfl))
end Go.Mach.F