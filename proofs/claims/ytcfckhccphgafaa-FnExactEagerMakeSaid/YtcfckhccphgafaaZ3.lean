/- Lemmas and definitions of the proof (Fb Ro Ga Fc Ha Hk Ia Id Cn Co Ra Rb Rc Rd Rj Vc). Conditions: none. -/
import Derived.WalkKit
import Derived.ProofKit
import Derived.OpenShut
import Derived.ShutString
import Derived.ChangeOld
import Derived.Below
import Derived.SizedLaws
import Derived.Test.YtcfckhccphgafaaZ2
set_option linter.all false
namespace Go.Mach.F
open Go Go.Mach Go.Proofs.Try
--=set_option maxRecDepth 100000
theorem dm_toLI {l : List Int} (h : ok_LI l) : dom ok_LI ea_LI [(0, false, [C.tr false (T.arr 1 l.length (atL rowI l))])] = true := dom_ea (ea := ea_LI) (x := l) h
theorem iv_toLI {l : List Int} (h : ok_LI l) : inv ok_LI ea_LI [(0, false, [C.tr false (T.arr 1 l.length (atL rowI l))])] = l := inv_ea ea_LI_inj (x := l) h
theorem dm_eqLI {l r : List Int} (h : okq_LI l) : dom ok2_LI ea2_LI [(0, false, [C.tr false (T.arr 1 l.length (atL rowI l))]), (0, false, [C.tr false (T.arr 1 r.length (atL rowI r))])] = true := dom_ea (ea := ea2_LI) (x := (l, r)) h
theorem iv_eqLI {l r : List Int} (h : okq_LI l) : inv ok2_LI ea2_LI [(0, false, [C.tr false (T.arr 1 l.length (atL rowI l))]), (0, false, [C.tr false (T.arr 1 r.length (atL rowI r))])] = (l, r) := inv_ea ea2_LI_inj (x := (l, r)) h
theorem d_eqLI (l r : List Int) : f_eqLI (l, r) = decide (l = r) := rfl
theorem dm_hdLI {l : List Int} {k : Int} (h : okh_LI (l, k)) : dom okh_LI eah_LI [(0, false, [C.tr false (T.arr 1 l.length (atL rowI l))]), (0, false, [C.tr false (T.int IntKind.i64 k)])] = true := dom_ea (ea := eah_LI) (x := (l, k)) h
theorem iv_hdLI {l : List Int} {k : Int} (h : okh_LI (l, k)) : inv okh_LI eah_LI [(0, false, [C.tr false (T.arr 1 l.length (atL rowI l))]), (0, false, [C.tr false (T.int IntKind.i64 k)])] = (l, k) := inv_ea eah_LI_inj (x := (l, k)) h
theorem y_hdLI {l : List Int} {k : Int} (h : l = mk_LI l k) : f_hdLI (l, k) = k + cntL c1_LI l := if_pos h
theorem n_hdLI {l : List Int} {k : Int} (h : ¬ l = mk_LI l k) : f_hdLI (l, k) = -1 := if_neg h
theorem dm_mkLI {l : List Int} {k : Int} (h : okh_LI (l, k)) : dom okh_LI eam_LI [(1, false, [C.tr true (T.arr 1 l.length (atL rowI l))]), (0, false, [C.tr false (T.int IntKind.i64 k)])] = true := dom_ea (ea := eam_LI) (x := (l, k)) h
theorem iv_mkLI {l : List Int} {k : Int} (h : okh_LI (l, k)) : inv okh_LI eam_LI [(1, false, [C.tr true (T.arr 1 l.length (atL rowI l))]), (0, false, [C.tr false (T.int IntKind.i64 k)])] = (l, k) := inv_ea eam_LI_inj (x := (l, k)) h
theorem len_mkLI (l : List Int) (k : Int) : (mk_LI l k).length = l.length := markL_len _ _ _ _
theorem d_mkLI (l : List Int) (k : Int) : f_mkLI (l, k) = mk_LI l k := rfl
theorem d_ctLI (l : List Int) (k : Int) : f_ctLI (l, k) = k + cntL c1_LI l := rfl
theorem dm_toLB {l : List UInt8} (h : ok_LB l) : dom ok_LB ea_LB [(0, false, [C.tr false (T.arr 1 l.length (atL rowB l))])] = true := dom_ea (ea := ea_LB) (x := l) h
theorem iv_toLB {l : List UInt8} (h : ok_LB l) : inv ok_LB ea_LB [(0, false, [C.tr false (T.arr 1 l.length (atL rowB l))])] = l := inv_ea ea_LB_inj (x := l) h
theorem dm_eqLB {l r : List UInt8} (h : okq_LB l) : dom ok2_LB ea2_LB [(0, false, [C.tr false (T.arr 1 l.length (atL rowB l))]), (0, false, [C.tr false (T.arr 1 r.length (atL rowB r))])] = true := dom_ea (ea := ea2_LB) (x := (l, r)) h
theorem iv_eqLB {l r : List UInt8} (h : okq_LB l) : inv ok2_LB ea2_LB [(0, false, [C.tr false (T.arr 1 l.length (atL rowB l))]), (0, false, [C.tr false (T.arr 1 r.length (atL rowB r))])] = (l, r) := inv_ea ea2_LB_inj (x := (l, r)) h
theorem d_eqLB (l r : List UInt8) : f_eqLB (l, r) = decide (l = r) := rfl
theorem dm_hdLB {l : List UInt8} {k : Int} (h : okh_LB (l, k)) : dom okh_LB eah_LB [(0, false, [C.tr false (T.arr 1 l.length (atL rowB l))]), (0, false, [C.tr false (T.int IntKind.i64 k)])] = true := dom_ea (ea := eah_LB) (x := (l, k)) h
theorem iv_hdLB {l : List UInt8} {k : Int} (h : okh_LB (l, k)) : inv okh_LB eah_LB [(0, false, [C.tr false (T.arr 1 l.length (atL rowB l))]), (0, false, [C.tr false (T.int IntKind.i64 k)])] = (l, k) := inv_ea eah_LB_inj (x := (l, k)) h
theorem y_hdLB {l : List UInt8} {k : Int} (h : l = mk_LB l k) : f_hdLB (l, k) = k + cntL c1_LB l := if_pos h
theorem n_hdLB {l : List UInt8} {k : Int} (h : ¬ l = mk_LB l k) : f_hdLB (l, k) = -1 := if_neg h
theorem dm_mkLB {l : List UInt8} {k : Int} (h : okh_LB (l, k)) : dom okh_LB eam_LB [(1, false, [C.tr true (T.arr 1 l.length (atL rowB l))]), (0, false, [C.tr false (T.int IntKind.i64 k)])] = true := dom_ea (ea := eam_LB) (x := (l, k)) h
theorem iv_mkLB {l : List UInt8} {k : Int} (h : okh_LB (l, k)) : inv okh_LB eam_LB [(1, false, [C.tr true (T.arr 1 l.length (atL rowB l))]), (0, false, [C.tr false (T.int IntKind.i64 k)])] = (l, k) := inv_ea eam_LB_inj (x := (l, k)) h
theorem len_mkLB (l : List UInt8) (k : Int) : (mk_LB l k).length = l.length := markL_len _ _ _ _
theorem d_mkLB (l : List UInt8) (k : Int) : f_mkLB (l, k) = mk_LB l k := rfl
theorem d_ctLB (l : List UInt8) (k : Int) : f_ctLB (l, k) = k + cntL c1_LB l := rfl
def okz_LI (l : List Int) : Prop := l.length ≤ ZM
def n_LI (l : List Int) : Nat := l.length
def okz_LB (l : List UInt8) : Prop := l.length ≤ ZM
def n_LB (l : List UInt8) : Nat := l.length
theorem Hd.cs_inj (x y : Hd) (h : ∀ k, x.cs.getD k .hole = y.cs.getD k .hole) : x = y := by
  have h0 := h 0; have h1 := h 1
  rcases x with ⟨x0, x1⟩
  rcases y with ⟨y0, y1⟩
  simp only [Hd.cs, List.getD_cons_zero, List.getD_cons_succ, T.int.injEq, T.bool.injEq, true_and] at h0 h1
  subst h0; subst h1
  rfl
def i_toHd : Nat := 24
noncomputable abbrev F_toHd : Func := f24
def kp_toHd : List (Nat × List Nat) := [(0, [4, 5, 8, 9]), (1, [4, 5, 8, 9, 12, 13]), (2, [4, 5, 8, 9, 12, 13]), (3, [8, 9, 12, 13]), (4, [8, 9])]
noncomputable def e_toHd : Ent := inl [] prog (tabS []) kp_toHd 0 F_toHd
theorem s_toHd : EntOk prog i_toHd e_toHd := inl_ok tabS_nil mixed (c := bodyOf F_toHd) func24 (by kernel_rfl) (name_ok (by kernel_rfl))
def i_eqHd : Nat := 146
noncomputable abbrev F_eqHd : Func := f146
def kp_eqHd : List (Nat × List Nat) := [(0, [8, 9, 12, 13]), (1, [8, 9, 12, 13, 36]), (2, [16]), (3, [56]), (4, [16]), (5, [16])]
noncomputable def e_eqHd : Ent := inl [] prog (tabS []) kp_eqHd 0 F_eqHd
theorem s_eqHd : EntOk prog i_eqHd e_eqHd := inl_ok tabS_nil mixed (c := bodyOf F_eqHd) func146 (by kernel_rfl) (name_ok (by kernel_rfl))
def ok_HdS (l : List Hd) : Prop := l.length ≤ LM ∧ ∀ x ∈ l, True
def ea_HdS (l : List Hd) : List Arg := [aT (eL 2 Hd.cs l)]
noncomputable def e_toHdS : Ent := ent [] ok_HdS ea_HdS (fun l => erT 1 (eL 2 Hd.cs l)) fun l => l
def okq_HdS (l : List Hd) : Prop := l.length ≤ BM ∧ ∀ x ∈ l, True
def ok2_HdS (x : List Hd × List Hd) : Prop := okq_HdS x.1
def ea2_HdS (x : List Hd × List Hd) : List Arg := [aT (eL 2 Hd.cs x.1), aT (eL 2 Hd.cs x.2)]
def f_eqHdS (x : List Hd × List Hd) : Bool := decide (x.1 = x.2)
noncomputable def e_eqHdS : Ent := ent [] ok2_HdS ea2_HdS (erB 2) f_eqHdS
theorem ea_HdS_inj (x y : List Hd) (h : ea_HdS x = ea_HdS y) : x = y := by
  simp only [ea_HdS, aT, List.cons.injEq, Prod.mk.injEq, true_and, and_true, C.tr.injEq] at h
  exact eL_inj Hd.cs_inj h
theorem ea2_HdS_inj (x y : List Hd × List Hd) (h : ea2_HdS x = ea2_HdS y) : x = y := by
  simp only [ea2_HdS, aT, List.cons.injEq, Prod.mk.injEq, true_and, and_true, C.tr.injEq] at h
  exact Prod.ext (eL_inj Hd.cs_inj h.1) (eL_inj Hd.cs_inj h.2)
def i_toHdS : Nat := 139
noncomputable abbrev F_toHdS : Func := f139
def kp_toHdS : List (Nat × List Nat) := [(0, [0]), (1, [0, 12]), (2, [0, 12, 16]), (3, [0, 12, 16, 44]), (4, [0, 12, 16]), (5, [0, 12, 16]), (6, [8])]
def ts_toHdS : List Nat := [0]
def st_toHdS_1 (l : List Hd) (nx12 : Nat) (fx12 : Nat → Nat → T) (x16 : Int) : St := [(0, ⟨z0, [(false, [.tr false (eL 2 Hd.cs l)])]⟩), (12, ⟨z0, [(false, [.tr true (.arr (2) (nx12) (fx12))])]⟩), (16, ⟨z0, [(false, [.tr true (T.int IntKind.i64 x16)])]⟩)]
def ex_toHdS_1_1 (l : List Hd) (nx12 : Nat) (fx12 : Nat → Nat → T) (x16 : Int) : St := [(0, ⟨z0, [(false, [.tr false (eL 2 Hd.cs l)])]⟩), (12, ⟨z0, [(false, [.tr true (.arr (2) (nx12) (fx12))])]⟩), (16, ⟨z0, [(false, [.tr true (T.int IntKind.i64 x16)])]⟩), (44, ⟨z0, []⟩)]
theorem round_toHdS_1 (l : List Hd) (nx12 : Nat) (fx12 : Nat → Nat → T) (x16 : Int) (n : Nat) (K : Ex → St → Res) : roundAt prog (tabS [(i_toHd, e_toHd)]) kp_toHdS F_toHdS [1, 1, 0, 1, 0] n (st_toHdS_1 l nx12 fx12 x16) K = (
 bif decide (x16 < (↑l.length : Int)) then
  gd (decide (0 ≤ x16) && (x16.toNat.blt l.length && true)) <|
  gd (T.isI IntKind.i64 (atL Hd.cs l x16.toNat 0) && T.isI IntKind.i64 (atL Hd.cs l x16.toNat 1)) <|
  gd (decide (0 ≤ x16) && (x16.toNat.blt nx12 && true)) <|
  gd ((0 + x16.toNat).blt nx12 && true && true) <|
  gd ((0 + x16.toNat).blt nx12 && true && true) <|
  K .normal (st_toHdS_1 l (nx12) (setF (0 + x16.toNat) 1 (T.int IntKind.i64 (atL Hd.cs l x16.toNat 1).toI)
  (setF (0 + x16.toNat) 0 (T.int IntKind.i64 (atL Hd.cs l x16.toNat 0).toI) fx12)) (IntKind.i64.wrap (x16 + 1)))
 else
 K (.exit 0) (ex_toHdS_1_1 l nx12 fx12 x16)) := by kernel_rfl
theorem post_toHdS_1_1 (l : List Hd) (nx12 : Nat) (fx12 : Nat → Nat → T) (x16 : Int) (n : Nat) : contAt prog (tabS [(i_toHd, e_toHd)]) kp_toHdS F_toHdS ts_toHdS [1, 1, 0, 1, 0] [] n (.exit 0) (ex_toHdS_1_1 l nx12 fx12 x16) = (
 gd (nx12.ble nx12 && true) <|
 gd (nx12.ble nx12 && true) <|
 some ([(false, [.tr true (.arr (2) (nx12) (fx12))])], [(false, [])])) := by kernel_rfl
theorem pre_toHdS (l : List Hd) (n : Nat) : body prog (tabS [(i_toHd, e_toHd)]) kp_toHdS n F_toHdS [aT (eL 2 Hd.cs l)] = (
 gd (decide (0 ≤ (↑l.length : Int)) &&
  (decide ((↑l.length : Int) ≤ (↑l.length : Int)) &&
    (((↑l.length : Int).toNat * 16).ble 70368744177664 && (↑l.length : Int).toNat.ble 70368744177664))) <|
 gd ((↑l.length : Int).toNat.ble (↑l.length : Int).toNat && true) <|
 loopAt prog (tabS [(i_toHd, e_toHd)]) kp_toHdS F_toHdS [1, 1, 0, 1, 0] n n (st_toHdS_1 l ((↑l.length : Int).toNat) (cutT 0 (↑l.length : Int).toNat (zeroT prog 59)) (0)) (contAt prog (tabS [(i_toHd, e_toHd)]) kp_toHdS F_toHdS ts_toHdS [1, 1, 0, 1, 0] [] n)) := by kernel_rfl
theorem body_toHdS (l : List Hd) (hl : ok_HdS l) : body prog (tabS [(i_toHd, e_toHd)]) kp_toHdS (l.length + 1) F_toHdS (ea_HdS l) = some (erT 1 (eL 2 Hd.cs l)) := by
  have hl' : l.length ≤ LM := hl.1
  have hlm := lm
  unfold ea_HdS
  rw [pre_toHdS]
  simp only [ge0_d, Int.toNat_natCast, ble_d, Int.le_refl, Nat.le_refl, decide_true, Bool.and_true, Bool.true_and, gd_true]
  rw [decide_eq_true (show l.length * 16 ≤ 70368744177664 by omega), decide_eq_true (show l.length ≤ 70368744177664 by omega)]
  simp only [Bool.and_true, gd_true]
  rw [zero_fill (m := 2) (row := Hd.cs) (d := default) l.length (fun j k => by rcases k with _ | _ | _ <;> kernel_rfl), ← fill_zero l default]
  have hst : st_toHdS_1 l l.length (atL Hd.cs (fill l default 0)) 0 = (fun i : Nat => st_toHdS_1 l l.length (atL Hd.cs (fill l default i)) (i : Nat)) 0 := rfl
  rw [hst, forLoop l.length (fun i : Nat => st_toHdS_1 l l.length (atL Hd.cs (fill l default i)) (i : Nat)) (ex_toHdS_1_1 l l.length (atL Hd.cs l) l.length) 0 (fun i K hi => ?_) (fun K => ?_) _ (Nat.le_refl _)]
  · rw [post_toHdS_1_1]
    simp only [ble_d, Nat.le_refl, decide_true, gd_true, Bool.and_true]
    rfl
  · have hx := List.getElem?_eq_getElem hi
    
    have hd : (fill l default i)[i]? = some default := by
      unfold fill
      rw [List.getElem?_append_right (by simp; omega), List.getElem?_replicate, if_pos (by simp; omega)]
    rw [round_toHdS_1]
    simp only [lt_d, ge0_d, Int.toNat_natCast, blt_d, ble_self, beq_self, decide_true, cond_true, Bool.and_self, Bool.and_true, Bool.true_and, gd_true, Nat.zero_add, List.getD_cons_zero, List.getD_cons_succ, isI_int, toI_int, isB_bool, toB_bool, eL_T, arr_ln, arr_fn, arr_wd, arr_is, arr_get, hi, atL_of hx, Hd.cs]
    rw [wrapS (by omega), ← fill_set l default hx]
    congr 3
    refine set_atL (by rw [fill_len l default (by omega)]; exact hi) fun j' k' => ?_
    by_cases e : j' = i
    · subst e
      rcases k' with _ | _ | k' <;> simp [setF_d, Hd.cs, atL_of hd, eL_T]
    · simp [setF_d, e]
  · rw [round_toHdS_1, fill_all]
    simp only [lt_d, Nat.lt_irrefl, decide_false, cond_false]
theorem s_toHdS : EntOk prog i_toHdS e_toHdS := ent_ok ea_HdS_inj fun l hl =>
  body_sound (φ := (tabS [(i_toHd, e_toHd)])) (tabS_cons s_toHd tabS_nil) mixed (kp := kp_toHdS) (n := l.length + 1) func139 (c := bodyOf F_toHdS) (by kernel_rfl) (body_toHdS l hl) (name_ok (by kernel_rfl))
def i_eqHdS : Nat := 147
noncomputable abbrev F_eqHdS : Func := f147
def kp_eqHdS : List (Nat × List Nat) := [(0, [0, 4]), (1, [0, 4, 40]), (2, [16]), (3, [0, 4, 20]), (4, [0, 4, 20, 56]), (5, [0, 4, 20]), (6, [0, 4, 20, 104]), (7, [16]), (8, [16])]
def ts_eqHdS : List Nat := [0, 0]
def st_eqHdS_1 (l r : List Hd) (x20 : Int) : St := [(0, ⟨z0, [(false, [.tr false (eL 2 Hd.cs l)])]⟩), (4, ⟨z0, [(false, [.tr false (eL 2 Hd.cs r)])]⟩), (20, ⟨z0, [(false, [.tr true (T.int IntKind.i64 x20)])]⟩)]
def ex_eqHdS_1_1 (l r : List Hd) (x20 : Int) : St := [(16, ⟨z0, [(false, [.tr true (T.bool false)])]⟩)]
def ex_eqHdS_1_2 (l r : List Hd) (x20 : Int) : St := [(0, ⟨z0, [(false, [.tr false (eL 2 Hd.cs l)])]⟩), (4, ⟨z0, [(false, [.tr false (eL 2 Hd.cs r)])]⟩), (20, ⟨z0, [(false, [.tr true (T.int IntKind.i64 x20)])]⟩), (56, ⟨z0, []⟩)]
theorem round_eqHdS_1 (l r : List Hd) (x20 : Int) (n : Nat) (K : Ex → St → Res) : roundAt prog (tabS [(i_eqHd, e_eqHd)]) kp_eqHdS F_eqHdS [1, 1, 0, 1, 0] n (st_eqHdS_1 l r x20) K = (
 bif decide (x20 < (↑l.length : Int)) then
  gd (decide (0 ≤ x20) && (x20.toNat.blt l.length && true)) <|
  gd (T.isI IntKind.i64 (atL Hd.cs l x20.toNat 0) && T.isI IntKind.i64 (atL Hd.cs l x20.toNat 1)) <|
  gd (decide (0 ≤ x20) && (x20.toNat.blt r.length && true)) <|
  gd (T.isI IntKind.i64 (atL Hd.cs r x20.toNat 0) && T.isI IntKind.i64 (atL Hd.cs r x20.toNat 1)) <|
  bif (atL Hd.cs l x20.toNat 0).toI != (atL Hd.cs r x20.toNat 0).toI then
   K .ret (ex_eqHdS_1_1 l r x20)
  else
  bif (atL Hd.cs l x20.toNat 1).toI != (atL Hd.cs r x20.toNat 1).toI then
   K .ret (ex_eqHdS_1_1 l r x20)
  else
  K .normal (st_eqHdS_1 l r (IntKind.i64.wrap (x20 + 1)))
 else
 K (.exit 0) (ex_eqHdS_1_2 l r x20)) := by kernel_rfl
theorem post_eqHdS_1_1 (l r : List Hd) (x20 : Int) (n : Nat) : contAt prog (tabS [(i_eqHd, e_eqHd)]) kp_eqHdS F_eqHdS ts_eqHdS [1, 1, 0, 1, 0] [] n .ret (ex_eqHdS_1_1 l r x20) = (
 some ([(false, [.tr true (T.bool false)])], [(false, []), (false, [])])) := by kernel_rfl
theorem post_eqHdS_1_2 (l r : List Hd) (x20 : Int) (n : Nat) : contAt prog (tabS [(i_eqHd, e_eqHd)]) kp_eqHdS F_eqHdS ts_eqHdS [1, 1, 0, 1, 0] [] n (.exit 0) (ex_eqHdS_1_2 l r x20) = (
 some ([(false, [.tr true (T.bool true)])], [(false, []), (false, [])])) := by kernel_rfl
theorem pre_eqHdS (l r : List Hd) (n : Nat) : body prog (tabS [(i_eqHd, e_eqHd)]) kp_eqHdS n F_eqHdS [aT (eL 2 Hd.cs l), aT (eL 2 Hd.cs r)] = (
 bif (↑l.length : Int) != (↑r.length : Int) then
  some ([(false, [.tr true (T.bool false)])], [(false, []), (false, [])])
 else
 loopAt prog (tabS [(i_eqHd, e_eqHd)]) kp_eqHdS F_eqHdS [1, 1, 0, 1, 0] n n (st_eqHdS_1 l r (0)) (contAt prog (tabS [(i_eqHd, e_eqHd)]) kp_eqHdS F_eqHdS ts_eqHdS [1, 1, 0, 1, 0] [] n)) := by kernel_rfl
theorem body_eqHdS (l r : List Hd) (hl : okq_HdS l) : body prog (tabS [(i_eqHd, e_eqHd)]) kp_eqHdS (l.length + 1) F_eqHdS (ea2_HdS (l, r)) = some (erB 2 (f_eqHdS (l, r))) := by
  have hbm := bm
  have hl' : l.length ≤ BM := hl.1
  unfold ea2_HdS f_eqHdS
  dsimp only
  rw [pre_eqHdS, int_ne]
  by_cases h : l.length = r.length
  · rw [decide_eq_true (by omega)]
    simp only [Bool.not_true, cond_false]
    have hst : st_eqHdS_1 l r 0 = (fun i : Nat => st_eqHdS_1 l r (i : Nat)) 0 := rfl
    rw [hst, eqS l r h (fun i : Nat => st_eqHdS_1 l r (i : Nat)) (fun i : Nat => ex_eqHdS_1_1 l r (i : Nat)) (ex_eqHdS_1_2 l r l.length) (fun i x y K hx hy => ?_) (fun K => ?_) (fun i => post_eqHdS_1_1 l r _ _) (post_eqHdS_1_2 l r _ _) _ (Nat.le_refl _)]
    · by_cases e : l = r
      · rw [if_pos e, decide_eq_true e]; rfl
      · rw [if_neg e, decide_eq_false e]; rfl
    · have hi := (List.getElem?_eq_some_iff.1 hx).1
      have hi' := (List.getElem?_eq_some_iff.1 hy).1
      have hxm : x ∈ l := List.mem_of_getElem? hx
      
      rw [round_eqHdS_1]
      simp only [lt_d, ge0_d, Int.toNat_natCast, blt_d, ble_self, beq_self, decide_true, cond_true, Bool.and_self, Bool.and_true, Bool.true_and, gd_true, Nat.zero_add, List.getD_cons_zero, List.getD_cons_succ, isI_int, toI_int, isB_bool, toB_bool, eL_T, arr_ln, arr_fn, arr_wd, arr_is, arr_get, hi, hi', atL_of hx, atL_of hy, Hd.cs, int_ne, bool_ne, bool_eq, chain]
      rw [wrapS (by omega)]
      have hxy : (x.slot = y.slot ∧ x.gen = y.gen) ↔ x = y := by
        rcases x with ⟨x0, x1⟩
        rcases y with ⟨y0, y1⟩
        simp [and_assoc]
      simp only [hxy]
    · rw [round_eqHdS_1]
      simp only [lt_d, Nat.lt_irrefl, decide_false, cond_false]
  · rw [decide_eq_false (by omega)]
    have : ¬ l = r := fun e => h (by rw [e])
    rw [decide_eq_false this]
    rfl
theorem s_eqHdS : EntOk prog i_eqHdS e_eqHdS := ent_ok ea2_HdS_inj fun x hx =>
  body_sound (φ := (tabS [(i_eqHd, e_eqHd)])) (tabS_cons s_eqHd tabS_nil) mixed (kp := kp_eqHdS) (n := x.1.length + 1) func147 (c := bodyOf F_eqHdS) (by kernel_rfl) (body_eqHdS x.1 x.2 hx) (name_ok (by kernel_rfl))
theorem dm_toHdS {l : List Hd} (h : ok_HdS l) : dom ok_HdS ea_HdS [(0, false, [C.tr false (T.arr 2 l.length (atL Hd.cs l))])] = true := dom_ea (ea := ea_HdS) (x := l) h
theorem iv_toHdS {l : List Hd} (h : ok_HdS l) : inv ok_HdS ea_HdS [(0, false, [C.tr false (T.arr 2 l.length (atL Hd.cs l))])] = l := inv_ea ea_HdS_inj (x := l) h
theorem dm_eqHdS {l r : List Hd} (h : okq_HdS l) : dom ok2_HdS ea2_HdS [(0, false, [C.tr false (T.arr 2 l.length (atL Hd.cs l))]), (0, false, [C.tr false (T.arr 2 r.length (atL Hd.cs r))])] = true := dom_ea (ea := ea2_HdS) (x := (l, r)) h
theorem iv_eqHdS {l r : List Hd} (h : okq_HdS l) : inv ok2_HdS ea2_HdS [(0, false, [C.tr false (T.arr 2 l.length (atL Hd.cs l))]), (0, false, [C.tr false (T.arr 2 r.length (atL Hd.cs r))])] = (l, r) := inv_ea ea2_HdS_inj (x := (l, r)) h
theorem d_eqHdS (l r : List Hd) : f_eqHdS (l, r) = decide (l = r) := rfl
def m1_HdS (x : Hd) (k : Int) : Hd := ⟨(k), (k + 1)⟩
def c1_HdS (x : Hd) : Nat := 1 + 1
def okh_HdS (x : List Hd × Int) : Prop := okq_HdS x.1 ∧ 0 ≤ x.2 ∧ x.2 + cntL c1_HdS x.1 ≤ BM
def eah_HdS (x : List Hd × Int) : List Arg := [aT (eL 2 Hd.cs x.1), aI x.2]
def eam_HdS (x : List Hd × Int) : List Arg := [lT (eL 2 Hd.cs x.1), aI x.2]
def mk_HdS (l : List Hd) (k : Int) : List Hd := markL m1_HdS c1_HdS l k
def f_hdHdS (x : List Hd × Int) : Int := if x.1 = mk_HdS x.1 x.2 then x.2 + cntL c1_HdS x.1 else -1
def f_mkHdS (x : List Hd × Int) : List Hd := mk_HdS x.1 x.2
def f_ctHdS (x : List Hd × Int) : Int := x.2 + cntL c1_HdS x.1
noncomputable def e_hdHdS : Ent := ent [] okh_HdS eah_HdS (erI 2) f_hdHdS
noncomputable def e_mkHdS : Ent := ent [1] okh_HdS eam_HdS (fun x => ([oT (.int .i64 (f_ctHdS x))], [oT (eL 2 Hd.cs (f_mkHdS x)), nul])) fun x => x
theorem eah_HdS_inj (x y : List Hd × Int) (h : eah_HdS x = eah_HdS y) : x = y := by
  simp only [eah_HdS, aI, aT, List.cons.injEq, Prod.mk.injEq, true_and, and_true, C.tr.injEq, T.int.injEq] at h
  exact Prod.ext (eL_inj Hd.cs_inj h.1) h.2
theorem eam_HdS_inj (x y : List Hd × Int) (h : eam_HdS x = eam_HdS y) : x = y := by
  simp only [eam_HdS, lT, aI, aT, List.cons.injEq, Prod.mk.injEq, true_and, and_true, C.tr.injEq, T.int.injEq] at h
  exact Prod.ext (eL_inj Hd.cs_inj h.1) h.2
def i_hdHdS : Nat := 117
noncomputable abbrev F_hdHdS : Func := f117
def kp_hdHdS : List (Nat × List Nat) := [(0, [0, 4]), (1, [0, 4, 20]), (2, [0, 4, 20, 36]), (3, [0, 4, 20]), (4, [0, 4, 20, 72]), (5, [16]), (6, [0, 4, 20]), (7, [0, 4, 20, 108]), (8, [16]), (9, [0, 4, 20]), (10, [16])]
def ts_hdHdS : List Nat := [0, 0]
def st_hdHdS_1 (l : List Hd) (k : Int) (x4 : Int) (x20 : Int) : St := [(0, ⟨z0, [(false, [.tr false (eL 2 Hd.cs l)])]⟩), (4, ⟨z0, [(false, [.tr true (T.int IntKind.i64 x4)])]⟩), (20, ⟨z0, [(false, [.tr true (T.int IntKind.i64 x20)])]⟩)]
def ex_hdHdS_1_1 (l : List Hd) (k : Int) (x4 : Int) (x20 : Int) : St := [(16, ⟨z0, [(false, [.tr true (T.int IntKind.i64 (-1))])]⟩)]
def ex_hdHdS_1_2 (l : List Hd) (k : Int) (x4 : Int) (x20 : Int) : St := [(0, ⟨z0, [(false, [.tr false (eL 2 Hd.cs l)])]⟩), (4, ⟨z0, [(false, [.tr true (T.int IntKind.i64 x4)])]⟩), (20, ⟨z0, [(false, [.tr true (T.int IntKind.i64 x20)])]⟩), (36, ⟨z0, []⟩)]
theorem round_hdHdS_1 (l : List Hd) (k : Int) (x4 : Int) (x20 : Int) (n : Nat) (K : Ex → St → Res) : roundAt prog (tabS []) kp_hdHdS F_hdHdS [1, 0, 1, 0] n (st_hdHdS_1 l k x4 x20) K = (
 bif decide (x20 < (↑l.length : Int)) then
  gd (decide (0 ≤ x20) && (x20.toNat.blt l.length && true)) <|
  gd (T.isI IntKind.i64 (atL Hd.cs l x20.toNat 0)) <|
  bif (atL Hd.cs l x20.toNat 0).toI != x4 then
   K .ret (ex_hdHdS_1_1 l k x4 x20)
  else
  gd (decide (0 ≤ x20) && (x20.toNat.blt l.length && true)) <|
  gd (T.isI IntKind.i64 (atL Hd.cs l x20.toNat 1)) <|
  bif (atL Hd.cs l x20.toNat 1).toI != IntKind.i64.wrap (x4 + 1) then
   K .ret (ex_hdHdS_1_1 l k x4 x20)
  else
  K .normal (st_hdHdS_1 l k (IntKind.i64.wrap (IntKind.i64.wrap (x4 + 1) + 1)) (IntKind.i64.wrap (x20 + 1)))
 else
 K (.exit 0) (ex_hdHdS_1_2 l k x4 x20)) := by kernel_rfl
theorem post_hdHdS_1_1 (l : List Hd) (k : Int) (x4 : Int) (x20 : Int) (n : Nat) : contAt prog (tabS []) kp_hdHdS F_hdHdS ts_hdHdS [1, 0, 1, 0] [] n .ret (ex_hdHdS_1_1 l k x4 x20) = (
 some ([(false, [.tr true (T.int IntKind.i64 (-1))])], [(false, []), (false, [])])) := by kernel_rfl
theorem post_hdHdS_1_2 (l : List Hd) (k : Int) (x4 : Int) (x20 : Int) (n : Nat) : contAt prog (tabS []) kp_hdHdS F_hdHdS ts_hdHdS [1, 0, 1, 0] [] n (.exit 0) (ex_hdHdS_1_2 l k x4 x20) = (
 some ([(false, [.tr true (T.int IntKind.i64 x4)])], [(false, []), (false, [])])) := by kernel_rfl
theorem pre_hdHdS (l : List Hd) (k : Int) (n : Nat) : body prog (tabS []) kp_hdHdS n F_hdHdS [aT (eL 2 Hd.cs l), aI k] = (
 loopAt prog (tabS []) kp_hdHdS F_hdHdS [1, 0, 1, 0] n n (st_hdHdS_1 l k (k) (0)) (contAt prog (tabS []) kp_hdHdS F_hdHdS ts_hdHdS [1, 0, 1, 0] [] n)) := by kernel_rfl
theorem body_hdHdS (l : List Hd) (k : Int) (h : okh_HdS (l, k)) : body prog (tabS []) kp_hdHdS (l.length + 1) F_hdHdS (eah_HdS (l, k)) = some (erI 2 (f_hdHdS (l, k))) := by
  obtain ⟨hl, hk0, hk1⟩ := h
  have hbm := bm
  dsimp only at hl hk0 hk1
  have hl' : l.length ≤ BM := hl.1
  unfold eah_HdS f_hdHdS
  dsimp only
  rw [pre_hdHdS]
  have hst : st_hdHdS_1 l k k 0 = (fun i : Nat => st_hdHdS_1 l k (k + cntL c1_HdS (l.take i)) (i : Nat)) 0 := by simp [cntL]
  rw [hst, heldS m1_HdS c1_HdS l k (fun i : Nat => st_hdHdS_1 l k (k + cntL c1_HdS (l.take i)) (i : Nat)) (fun i : Nat => ex_hdHdS_1_1 l k (k + cntL c1_HdS (l.take i)) (i : Nat)) (ex_hdHdS_1_2 l k (k + cntL c1_HdS l) l.length) (fun i x K hx => ?_) (fun K => ?_) (fun i => post_hdHdS_1_1 l k _ _ _) (post_hdHdS_1_2 l k _ _ _) _ (Nat.le_refl _)]
  · unfold mk_HdS
    split <;> rfl
  · have hi := (List.getElem?_eq_some_iff.1 hx).1
    have hxm : x ∈ l := List.mem_of_getElem? hx
    have hc := cntL_take c1_HdS l hx
    have hcl := cntL_le c1_HdS l (i + 1)
    have hcx : c1_HdS x = 1 + 1 := rfl
    
    rw [hc, round_hdHdS_1]
    obtain ⟨k0, hk⟩ : ∃ k0, k0 = k + (cntL c1_HdS (l.take i) : Int) := ⟨_, rfl⟩
    have hk2 : k + ((cntL c1_HdS (l.take i) + c1_HdS x : Nat) : Int) = k0 + 1 + 1 := by omega
    rw [hk2, ← hk]
    
    simp (disch := omega) only [lt_d, ge0_d, Int.toNat_natCast, blt_d, ble_self, beq_self, decide_true, cond_true, Bool.and_self, Bool.and_true, Bool.true_and, gd_true, Nat.zero_add, List.getD_cons_zero, List.getD_cons_succ, isI_int, toI_int, isB_bool, toB_bool, eL_T, arr_ln, arr_fn, arr_wd, arr_is, arr_get, hi, atL_of hx, Hd.cs, int_ne, bool_ne, wrapI, wrapS]
    by_cases e0 : x.slot = k0
    case neg =>
      rw [decide_eq_false e0, decide_eq_false (show ¬ x = m1_HdS x k0 from fun e => e0 (congrArg (fun z : Hd => z.slot) e))]
      rfl
    rw [decide_eq_true e0]
    simp (disch := omega) only [Bool.not_true, cond_false, wrapI]
    by_cases e1 : x.gen = k0 + 1
    case neg =>
      rw [decide_eq_false e1, decide_eq_false (show ¬ x = m1_HdS x k0 from fun e => e1 (congrArg (fun z : Hd => z.gen) e))]
      rfl
    rw [decide_eq_true e1]
    simp (disch := omega) only [Bool.not_true, cond_false, wrapI]
    have hm : x = m1_HdS x k0 := by
      rcases x with ⟨x0, x1⟩
      simp only [m1_HdS, Hd.mk.injEq]
      exact ⟨e0, e1⟩
    rw [decide_eq_true hm]
    simp only [Bool.not_true, cond_false]
    congr 2
  · rw [round_hdHdS_1]
    simp only [lt_d, Nat.lt_irrefl, decide_false, cond_false, List.take_length]
theorem s_hdHdS : EntOk prog i_hdHdS e_hdHdS := ent_ok eah_HdS_inj fun x hx =>
  body_sound (φ := (tabS [])) tabS_nil mixed (kp := kp_hdHdS) (n := x.1.length + 1) func117 (c := bodyOf F_hdHdS) (by kernel_rfl) (body_hdHdS x.1 x.2 hx) (name_ok (by kernel_rfl))
def i_mkHdS : Nat := 115
noncomputable abbrev F_mkHdS : Func := f115
def kp_mkHdS : List (Nat × List Nat) := [(0, [0, 4, 2]), (1, [0, 4, 20, 2]), (2, [0, 4, 20, 36, 2]), (3, [0, 4, 20, 2]), (4, [0, 4, 20, 2]), (5, [0, 4, 20, 2]), (6, [0, 4, 20, 2]), (7, [0, 4, 20, 2]), (8, [16, 2])]
def ts_mkHdS : List Nat := [1, 0]
def st_mkHdS_1 (l : List Hd) (k : Int) (x4 : Int) (x20 : Int) (nx2 : Nat) (fx2 : Nat → Nat → T) : St := [(0, ⟨z0, [(false, [(C.ref 2 0 [0, 0] 2 0 l.length)])]⟩), (4, ⟨z0, [(false, [.tr true (T.int IntKind.i64 x4)])]⟩), (20, ⟨z0, [(false, [.tr true (T.int IntKind.i64 x20)])]⟩), (2, ⟨z0, [(false, [.tr true (.arr (2) (nx2) (fx2))])]⟩)]
def ex_mkHdS_1_1 (l : List Hd) (k : Int) (x4 : Int) (x20 : Int) (nx2 : Nat) (fx2 : Nat → Nat → T) : St := [(0, ⟨z0, [(false, [(C.ref 2 0 [0, 0] 2 0 l.length)])]⟩), (4, ⟨z0, [(false, [.tr true (T.int IntKind.i64 x4)])]⟩), (20, ⟨z0, [(false, [.tr true (T.int IntKind.i64 x20)])]⟩), (36, ⟨z0, []⟩), (2, ⟨z0, [(false, [.tr true (.arr (2) (nx2) (fx2))])]⟩)]
theorem round_mkHdS_1 (l : List Hd) (k : Int) (x4 : Int) (x20 : Int) (nx2 : Nat) (fx2 : Nat → Nat → T) (n : Nat) (K : Ex → St → Res) : roundAt prog (tabS []) kp_mkHdS F_mkHdS [1, 0, 1, 0] n (st_mkHdS_1 l k x4 x20 nx2 fx2) K = (
 bif decide (x20 < (↑l.length : Int)) then
  gd (decide (0 ≤ x20) && (x20.toNat.blt l.length && true)) <|
  gd ((0 + x20.toNat).blt nx2 && true && true) <|
  gd (decide (0 ≤ x20) && (x20.toNat.blt l.length && true)) <|
  gd ((0 + x20.toNat).blt nx2 && true && true) <|
  K .normal (st_mkHdS_1 l k (IntKind.i64.wrap (IntKind.i64.wrap (x4 + 1) + 1)) (IntKind.i64.wrap (x20 + 1)) (nx2) (setF (0 + x20.toNat) 1 (T.int IntKind.i64 (IntKind.i64.wrap (x4 + 1)))
  (setF (0 + x20.toNat) 0 (T.int IntKind.i64 x4) fx2)))
 else
 K (.exit 0) (ex_mkHdS_1_1 l k x4 x20 nx2 fx2)) := by kernel_rfl
theorem post_mkHdS_1_1 (l : List Hd) (k : Int) (x4 : Int) (x20 : Int) (nx2 : Nat) (fx2 : Nat → Nat → T) (n : Nat) : contAt prog (tabS []) kp_mkHdS F_mkHdS ts_mkHdS [1, 0, 1, 0] [] n (.exit 0) (ex_mkHdS_1_1 l k x4 x20 nx2 fx2) = (
 some ([(false, [.tr true (T.int IntKind.i64 x4)])], [(false, [.tr true (.arr (2) (nx2) (fx2))]), (false, [])])) := by kernel_rfl
theorem pre_mkHdS (l : List Hd) (k : Int) (n : Nat) : body prog (tabS []) kp_mkHdS n F_mkHdS [lT (eL 2 Hd.cs l), aI k] = (
 loopAt prog (tabS []) kp_mkHdS F_mkHdS [1, 0, 1, 0] n n (st_mkHdS_1 l k (k) (0) (T.ln (eL 2 Hd.cs l)) (T.fn (eL 2 Hd.cs l))) (contAt prog (tabS []) kp_mkHdS F_mkHdS ts_mkHdS [1, 0, 1, 0] [] n)) := by kernel_rfl
theorem body_mkHdS (l : List Hd) (k : Int) (h : okh_HdS (l, k)) : body prog (tabS []) kp_mkHdS (l.length + 1) F_mkHdS (eam_HdS (l, k)) = some ([oT (.int .i64 (f_ctHdS (l, k)))], [oT (eL 2 Hd.cs (f_mkHdS (l, k))), nul]) := by
  obtain ⟨hl, hk0, hk1⟩ := h
  have hbm := bm
  dsimp only at hl hk0 hk1
  have hl' : l.length ≤ BM := hl.1
  unfold eam_HdS f_ctHdS f_mkHdS
  dsimp only
  rw [pre_mkHdS]
  have hst : st_mkHdS_1 l k k 0 l.length (atL Hd.cs l) = (fun i : Nat => st_mkHdS_1 l k (k + cntL c1_HdS (l.take i)) (i : Nat) l.length (atL Hd.cs (mkd m1_HdS c1_HdS l k i))) 0 := by simp [cntL, mkd_zero]
  refine Eq.trans (congrArg (fun s => loopAt prog _ _ _ _ _ _ s _) hst) ?_
  rw [forLoop l.length (fun i : Nat => st_mkHdS_1 l k (k + cntL c1_HdS (l.take i)) (i : Nat) l.length (atL Hd.cs (mkd m1_HdS c1_HdS l k i))) (ex_mkHdS_1_1 l k (k + cntL c1_HdS l) l.length l.length (atL Hd.cs (mk_HdS l k))) 0 (fun i K hi => ?_) (fun K => ?_) _ (Nat.le_refl _)]
  · rw [post_mkHdS_1_1]
    have := markL_len m1_HdS c1_HdS l k
    rw [eL_T, show (mk_HdS l k).length = l.length from this]
    rfl
  · have hx := List.getElem?_eq_getElem hi
    obtain ⟨x, hxe⟩ : ∃ x, x = l[i] := ⟨_, rfl⟩
    rw [← hxe] at hx
    have hxm : x ∈ l := List.mem_of_getElem? hx
    have hg := mkd_get m1_HdS c1_HdS l k hx
    have hc := cntL_take c1_HdS l hx
    have hcl := cntL_le c1_HdS l (i + 1)
    have hcx : c1_HdS x = 1 + 1 := rfl
    
    rw [hc, round_mkHdS_1]
    have hms := mkd_set m1_HdS c1_HdS l k hx
    have hml : i < (mkd m1_HdS c1_HdS l k i).length := by rw [mkd_len _ _ _ _ (by omega)]; exact hi
    obtain ⟨k0, hk⟩ : ∃ k0, k0 = k + (cntL c1_HdS (l.take i) : Int) := ⟨_, rfl⟩
    have hk2 : k + ((cntL c1_HdS (l.take i) + c1_HdS x : Nat) : Int) = k0 + 1 + 1 := by omega
    rw [hk2]
    rw [← hk] at hms ⊢
    
    simp (disch := omega) only [lt_d, ge0_d, Int.toNat_natCast, blt_d, ble_self, beq_self, decide_true, cond_true, Bool.and_self, Bool.and_true, Bool.true_and, gd_true, Nat.zero_add, List.getD_cons_zero, List.getD_cons_succ, isI_int, toI_int, isB_bool, toB_bool, eL_T, arr_ln, arr_fn, arr_wd, arr_is, arr_get, hi, atL_of hg, Hd.cs, wrapI, wrapS, setF_d, and_self, if_true]
    rw [← hms]
    congr 2
    refine set_atL hml fun j' k' => ?_
    by_cases e : j' = i
    · subst e
      rcases k' with _ | _ | k' <;> simp [setF_d, Hd.cs, m1_HdS, atL_of hg, eL_T]
    · simp [setF_d, e]
  · rw [round_mkHdS_1, mkd_all]
    simp only [lt_d, Nat.lt_irrefl, decide_false, cond_false, List.take_length]
    rfl
theorem s_mkHdS : EntOk prog i_mkHdS e_mkHdS := ent_ok eam_HdS_inj fun x hx =>
  body_sound (φ := (tabS [])) tabS_nil mixed (kp := kp_mkHdS) (n := x.1.length + 1) func115 (c := bodyOf F_mkHdS) (by kernel_rfl) (body_mkHdS x.1 x.2 hx) (name_ok (by kernel_rfl))
theorem dm_hdHdS {l : List Hd} {k : Int} (h : okh_HdS (l, k)) : dom okh_HdS eah_HdS [(0, false, [C.tr false (T.arr 2 l.length (atL Hd.cs l))]), (0, false, [C.tr false (T.int IntKind.i64 k)])] = true := dom_ea (ea := eah_HdS) (x := (l, k)) h
theorem iv_hdHdS {l : List Hd} {k : Int} (h : okh_HdS (l, k)) : inv okh_HdS eah_HdS [(0, false, [C.tr false (T.arr 2 l.length (atL Hd.cs l))]), (0, false, [C.tr false (T.int IntKind.i64 k)])] = (l, k) := inv_ea eah_HdS_inj (x := (l, k)) h
theorem y_hdHdS {l : List Hd} {k : Int} (h : l = mk_HdS l k) : f_hdHdS (l, k) = k + cntL c1_HdS l := if_pos h
theorem n_hdHdS {l : List Hd} {k : Int} (h : ¬ l = mk_HdS l k) : f_hdHdS (l, k) = -1 := if_neg h
theorem dm_mkHdS {l : List Hd} {k : Int} (h : okh_HdS (l, k)) : dom okh_HdS eam_HdS [(1, false, [C.tr true (T.arr 2 l.length (atL Hd.cs l))]), (0, false, [C.tr false (T.int IntKind.i64 k)])] = true := dom_ea (ea := eam_HdS) (x := (l, k)) h
theorem iv_mkHdS {l : List Hd} {k : Int} (h : okh_HdS (l, k)) : inv okh_HdS eam_HdS [(1, false, [C.tr true (T.arr 2 l.length (atL Hd.cs l))]), (0, false, [C.tr false (T.int IntKind.i64 k)])] = (l, k) := inv_ea eam_HdS_inj (x := (l, k)) h
theorem len_mkHdS (l : List Hd) (k : Int) : (mk_HdS l k).length = l.length := markL_len _ _ _ _
theorem d_mkHdS (l : List Hd) (k : Int) : f_mkHdS (l, k) = mk_HdS l k := rfl
theorem d_ctHdS (l : List Hd) (k : Int) : f_ctHdS (l, k) = k + cntL c1_HdS l := rfl
def okz_HdS (l : List Hd) : Prop := l.length ≤ ZM
def n_HdS (l : List Hd) : Nat := l.length
def i_szHdS : Nat := 137
noncomputable abbrev F_szHdS : Func := f137
def kp_szHdS : List (Nat × List Nat) := [(0, [0, 4]), (1, [4]), (2, [4, 40]), (3, [16]), (4, [16])]
noncomputable def e_szHdS : Ent := inl [] prog (tabS []) kp_szHdS 0 F_szHdS
theorem s_szHdS : EntOk prog i_szHdS e_szHdS := inl_ok tabS_nil mixed (c := bodyOf F_szHdS) func137 (by kernel_rfl) (name_ok (by kernel_rfl))
theorem Sf.cs_inj (x y : Sf) (h : ∀ k, x.cs.getD k .hole = y.cs.getD k .hole) : x = y := by
  have h0 := h 0
  rcases x with ⟨x0⟩
  rcases y with ⟨y0⟩
  simp only [Sf.cs, List.getD_cons_zero, List.getD_cons_succ, T.int.injEq, T.bool.injEq, true_and] at h0
  replace h0 := eB_inj h0
  subst h0
  rfl
def i_toSf : Nat := 165
noncomputable abbrev F_toSf : Func := f165
def kp_toSf : List (Nat × List Nat) := [(0, [4, 5, 8, 9, 12, 13, 32]), (1, [4, 5, 8, 9, 12, 13, 32]), (2, [8, 9, 12, 13, 32]), (3, [8, 9, 12, 13, 32])]
noncomputable def e_toSf : Ent := inl [] prog (tabS [(i_toLB, e_toLB)]) kp_toSf 0 F_toSf
theorem s_toSf : EntOk prog i_toSf e_toSf := inl_ok (tabS_cons s_toLB tabS_nil) mixed (c := bodyOf F_toSf) func165 (by kernel_rfl) (name_ok (by kernel_rfl))
def i_eqSf : Nat := 168
noncomputable abbrev F_eqSf : Func := f168
def kp_eqSf : List (Nat × List Nat) := [(0, [8, 9, 12, 13]), (1, [40]), (2, [16]), (3, [16])]
noncomputable def e_eqSf : Ent := inl [] prog (tabS [(i_eqLB, e_eqLB)]) kp_eqSf 0 F_eqSf
theorem s_eqSf : EntOk prog i_eqSf e_eqSf := inl_ok (tabS_cons s_eqLB tabS_nil) mixed (c := bodyOf F_eqSf) func168 (by kernel_rfl) (name_ok (by kernel_rfl))
def i_szSf : Nat := 164
noncomputable abbrev F_szSf : Func := f164
def kp_szSf : List (Nat × List Nat) := [(0, [4, 8, 9]), (1, [4]), (2, [4, 40]), (3, [16]), (4, [16])]
noncomputable def e_szSf : Ent := inl [] prog (tabS [(i_szLB, e_szLB)]) kp_szSf 0 F_szSf
theorem s_szSf : EntOk prog i_szSf e_szSf := inl_ok (tabS_cons s_szLB tabS_nil) mixed (c := bodyOf F_szSf) func164 (by kernel_rfl) (name_ok (by kernel_rfl))
def ok_SfS (l : List Sf) : Prop := l.length ≤ LM ∧ ∀ x ∈ l, ok_LB x.b
def ea_SfS (l : List Sf) : List Arg := [aT (eL 1 Sf.cs l)]
noncomputable def e_toSfS : Ent := ent [] ok_SfS ea_SfS (fun l => erT 1 (eL 1 Sf.cs l)) fun l => l
def okq_SfS (l : List Sf) : Prop := l.length ≤ BM ∧ ∀ x ∈ l, okq_LB x.b
def ok2_SfS (x : List Sf × List Sf) : Prop := okq_SfS x.1
def ea2_SfS (x : List Sf × List Sf) : List Arg := [aT (eL 1 Sf.cs x.1), aT (eL 1 Sf.cs x.2)]
def f_eqSfS (x : List Sf × List Sf) : Bool := decide (x.1 = x.2)
noncomputable def e_eqSfS : Ent := ent [] ok2_SfS ea2_SfS (erB 2) f_eqSfS
theorem ea_SfS_inj (x y : List Sf) (h : ea_SfS x = ea_SfS y) : x = y := by
  simp only [ea_SfS, aT, List.cons.injEq, Prod.mk.injEq, true_and, and_true, C.tr.injEq] at h
  exact eL_inj Sf.cs_inj h
theorem ea2_SfS_inj (x y : List Sf × List Sf) (h : ea2_SfS x = ea2_SfS y) : x = y := by
  simp only [ea2_SfS, aT, List.cons.injEq, Prod.mk.injEq, true_and, and_true, C.tr.injEq] at h
  exact Prod.ext (eL_inj Sf.cs_inj h.1) (eL_inj Sf.cs_inj h.2)
def i_toSfS : Nat := 140
noncomputable abbrev F_toSfS : Func := f140
def kp_toSfS : List (Nat × List Nat) := [(0, [0]), (1, [0, 12]), (2, [0, 12, 16]), (3, [0, 12, 16, 44]), (4, [0, 12, 16]), (5, [0, 12, 16]), (6, [8])]
def ts_toSfS : List Nat := [0]
def st_toSfS_1 (l : List Sf) (nx12 : Nat) (fx12 : Nat → Nat → T) (x16 : Int) : St := [(0, ⟨z0, [(false, [.tr false (eL 1 Sf.cs l)])]⟩), (12, ⟨z0, [(false, [.tr true (.arr (1) (nx12) (fx12))])]⟩), (16, ⟨z0, [(false, [.tr true (T.int IntKind.i64 x16)])]⟩)]
def ex_toSfS_1_1 (l : List Sf) (nx12 : Nat) (fx12 : Nat → Nat → T) (x16 : Int) : St := [(0, ⟨z0, [(false, [.tr false (eL 1 Sf.cs l)])]⟩), (12, ⟨z0, [(false, [.tr true (.arr (1) (nx12) (fx12))])]⟩), (16, ⟨z0, [(false, [.tr true (T.int IntKind.i64 x16)])]⟩), (44, ⟨z0, []⟩)]
theorem round_toSfS_1 (l : List Sf) (nx12 : Nat) (fx12 : Nat → Nat → T) (x16 : Int) (n : Nat) (K : Ex → St → Res) : roundAt prog (tabS [(i_toSf, e_toSf)]) kp_toSfS F_toSfS [1, 1, 0, 1, 0] n (st_toSfS_1 l nx12 fx12 x16) K = (
 bif decide (x16 < (↑l.length : Int)) then
  gd (decide (0 ≤ x16) && (x16.toNat.blt l.length && true)) <|
  gd ((atL Sf.cs l x16.toNat 0).isArr && (atL Sf.cs l x16.toNat 0).wd.beq 1) <|
  gd (dom ok_LB ea_LB [(0, false, [C.tr false (T.arr 1 (atL Sf.cs l x16.toNat 0).ln (atL Sf.cs l x16.toNat 0).fn)])]) <|
  gd ((inv ok_LB ea_LB
          [(0, false, [C.tr false (T.arr 1 (atL Sf.cs l x16.toNat 0).ln (atL Sf.cs l x16.toNat 0).fn)])]).length.ble
    (inv ok_LB ea_LB
        [(0, false, [C.tr false (T.arr 1 (atL Sf.cs l x16.toNat 0).ln (atL Sf.cs l x16.toNat 0).fn)])]).length &&
  true) <|
  gd ((inv ok_LB ea_LB
          [(0, false, [C.tr false (T.arr 1 (atL Sf.cs l x16.toNat 0).ln (atL Sf.cs l x16.toNat 0).fn)])]).length.ble
    (inv ok_LB ea_LB
        [(0, false, [C.tr false (T.arr 1 (atL Sf.cs l x16.toNat 0).ln (atL Sf.cs l x16.toNat 0).fn)])]).length &&
  true) <|
  gd ((inv ok_LB ea_LB
          [(0, false, [C.tr false (T.arr 1 (atL Sf.cs l x16.toNat 0).ln (atL Sf.cs l x16.toNat 0).fn)])]).length.ble
    (inv ok_LB ea_LB
        [(0, false, [C.tr false (T.arr 1 (atL Sf.cs l x16.toNat 0).ln (atL Sf.cs l x16.toNat 0).fn)])]).length &&
  true) <|
  gd (decide (0 ≤ x16) && (x16.toNat.blt nx12 && true)) <|
  gd ((inv ok_LB ea_LB
          [(0, false, [C.tr false (T.arr 1 (atL Sf.cs l x16.toNat 0).ln (atL Sf.cs l x16.toNat 0).fn)])]).length.ble
    (inv ok_LB ea_LB
        [(0, false, [C.tr false (T.arr 1 (atL Sf.cs l x16.toNat 0).ln (atL Sf.cs l x16.toNat 0).fn)])]).length &&
  true) <|
  gd ((0 + x16.toNat).blt nx12 && true && true) <|
  K .normal (st_toSfS_1 l (nx12) (setF (0 + x16.toNat) 0
  (T.arr 1
    (inv ok_LB ea_LB
        [(0, false, [C.tr false (T.arr 1 (atL Sf.cs l x16.toNat 0).ln (atL Sf.cs l x16.toNat 0).fn)])]).length
    (atL rowB
      (inv ok_LB ea_LB
        [(0, false, [C.tr false (T.arr 1 (atL Sf.cs l x16.toNat 0).ln (atL Sf.cs l x16.toNat 0).fn)])])))
  fx12) (IntKind.i64.wrap (x16 + 1)))
 else
 K (.exit 0) (ex_toSfS_1_1 l nx12 fx12 x16)) := by kernel_rfl
theorem post_toSfS_1_1 (l : List Sf) (nx12 : Nat) (fx12 : Nat → Nat → T) (x16 : Int) (n : Nat) : contAt prog (tabS [(i_toSf, e_toSf)]) kp_toSfS F_toSfS ts_toSfS [1, 1, 0, 1, 0] [] n (.exit 0) (ex_toSfS_1_1 l nx12 fx12 x16) = (
 gd (nx12.ble nx12 && true) <|
 gd (nx12.ble nx12 && true) <|
 some ([(false, [.tr true (.arr (1) (nx12) (fx12))])], [(false, [])])) := by kernel_rfl
theorem pre_toSfS (l : List Sf) (n : Nat) : body prog (tabS [(i_toSf, e_toSf)]) kp_toSfS n F_toSfS [aT (eL 1 Sf.cs l)] = (
 gd (decide (0 ≤ (↑l.length : Int)) &&
  (decide ((↑l.length : Int) ≤ (↑l.length : Int)) &&
    (((↑l.length : Int).toNat * 24).ble 70368744177664 && (↑l.length : Int).toNat.ble 70368744177664))) <|
 gd ((↑l.length : Int).toNat.ble (↑l.length : Int).toNat && true) <|
 loopAt prog (tabS [(i_toSf, e_toSf)]) kp_toSfS F_toSfS [1, 1, 0, 1, 0] n n (st_toSfS_1 l ((↑l.length : Int).toNat) (cutT 0 (↑l.length : Int).toNat (zeroT prog 148)) (0)) (contAt prog (tabS [(i_toSf, e_toSf)]) kp_toSfS F_toSfS ts_toSfS [1, 1, 0, 1, 0] [] n)) := by kernel_rfl
theorem body_toSfS (l : List Sf) (hl : ok_SfS l) : body prog (tabS [(i_toSf, e_toSf)]) kp_toSfS (l.length + 1) F_toSfS (ea_SfS l) = some (erT 1 (eL 1 Sf.cs l)) := by
  have hl' : l.length ≤ LM := hl.1
  have hlm := lm
  unfold ea_SfS
  rw [pre_toSfS]
  simp only [ge0_d, Int.toNat_natCast, ble_d, Int.le_refl, Nat.le_refl, decide_true, Bool.and_true, Bool.true_and, gd_true]
  rw [decide_eq_true (show l.length * 24 ≤ 70368744177664 by omega), decide_eq_true (show l.length ≤ 70368744177664 by omega)]
  simp only [Bool.and_true, gd_true]
  rw [zero_fill (m := 1) (row := Sf.cs) (d := default) l.length (fun j k => by rcases k with _ | _ <;> kernel_rfl), ← fill_zero l default]
  have hst : st_toSfS_1 l l.length (atL Sf.cs (fill l default 0)) 0 = (fun i : Nat => st_toSfS_1 l l.length (atL Sf.cs (fill l default i)) (i : Nat)) 0 := rfl
  rw [hst, forLoop l.length (fun i : Nat => st_toSfS_1 l l.length (atL Sf.cs (fill l default i)) (i : Nat)) (ex_toSfS_1_1 l l.length (atL Sf.cs l) l.length) 0 (fun i K hi => ?_) (fun K => ?_) _ (Nat.le_refl _)]
  · rw [post_toSfS_1_1]
    simp only [ble_d, Nat.le_refl, decide_true, gd_true, Bool.and_true]
    rfl
  · have hx := List.getElem?_eq_getElem hi
    have h0 := (hl.2 _ (List.getElem_mem hi))
    have hd : (fill l default i)[i]? = some default := by
      unfold fill
      rw [List.getElem?_append_right (by simp; omega), List.getElem?_replicate, if_pos (by simp; omega)]
    rw [round_toSfS_1]
    simp only [lt_d, ge0_d, Int.toNat_natCast, blt_d, ble_self, beq_self, decide_true, cond_true, Bool.and_self, Bool.and_true, Bool.true_and, gd_true, Nat.zero_add, List.getD_cons_zero, List.getD_cons_succ, isI_int, toI_int, isB_bool, toB_bool, eL_T, arr_ln, arr_fn, arr_wd, arr_is, arr_get, hi, atL_of hx, Sf.cs, dm_toLB h0, iv_toLB h0]
    rw [wrapS (by omega), ← fill_set l default hx]
    congr 3
    refine set_atL (by rw [fill_len l default (by omega)]; exact hi) fun j' k' => ?_
    by_cases e : j' = i
    · subst e
      rcases k' with _ | k' <;> simp [setF_d, Sf.cs, atL_of hd, eL_T]
    · simp [setF_d, e]
  · rw [round_toSfS_1, fill_all]
    simp only [lt_d, Nat.lt_irrefl, decide_false, cond_false]
theorem s_toSfS : EntOk prog i_toSfS e_toSfS := ent_ok ea_SfS_inj fun l hl =>
  body_sound (φ := (tabS [(i_toSf, e_toSf)])) (tabS_cons s_toSf tabS_nil) mixed (kp := kp_toSfS) (n := l.length + 1) func140 (c := bodyOf F_toSfS) (by kernel_rfl) (body_toSfS l hl) (name_ok (by kernel_rfl))
def i_eqSfS : Nat := 148
noncomputable abbrev F_eqSfS : Func := f148
def kp_eqSfS : List (Nat × List Nat) := [(0, [0, 4]), (1, [0, 4, 40]), (2, [16]), (3, [0, 4, 20]), (4, [0, 4, 20, 56]), (5, [0, 4, 20]), (6, [0, 4, 20, 104]), (7, [16]), (8, [16])]
def ts_eqSfS : List Nat := [0, 0]
def st_eqSfS_1 (l r : List Sf) (x20 : Int) : St := [(0, ⟨z0, [(false, [.tr false (eL 1 Sf.cs l)])]⟩), (4, ⟨z0, [(false, [.tr false (eL 1 Sf.cs r)])]⟩), (20, ⟨z0, [(false, [.tr true (T.int IntKind.i64 x20)])]⟩)]
def ex_eqSfS_1_1 (l r : List Sf) (x20 : Int) : St := [(16, ⟨z0, [(false, [.tr true (T.bool false)])]⟩)]
def ex_eqSfS_1_2 (l r : List Sf) (x20 : Int) : St := [(0, ⟨z0, [(false, [.tr false (eL 1 Sf.cs l)])]⟩), (4, ⟨z0, [(false, [.tr false (eL 1 Sf.cs r)])]⟩), (20, ⟨z0, [(false, [.tr true (T.int IntKind.i64 x20)])]⟩), (56, ⟨z0, []⟩)]
theorem round_eqSfS_1 (l r : List Sf) (x20 : Int) (n : Nat) (K : Ex → St → Res) : roundAt prog (tabS [(i_eqSf, e_eqSf)]) kp_eqSfS F_eqSfS [1, 1, 0, 1, 0] n (st_eqSfS_1 l r x20) K = (
 bif decide (x20 < (↑l.length : Int)) then
  gd (decide (0 ≤ x20) && (x20.toNat.blt l.length && true)) <|
  gd ((atL Sf.cs l x20.toNat 0).isArr && (atL Sf.cs l x20.toNat 0).wd.beq 1) <|
  gd (decide (0 ≤ x20) && (x20.toNat.blt r.length && true)) <|
  gd ((atL Sf.cs r x20.toNat 0).isArr && (atL Sf.cs r x20.toNat 0).wd.beq 1) <|
  gd (dom ok2_LB ea2_LB
  [(0, false, [C.tr false (T.arr 1 (atL Sf.cs l x20.toNat 0).ln (atL Sf.cs l x20.toNat 0).fn)]),
    (0, false, [C.tr false (T.arr 1 (atL Sf.cs r x20.toNat 0).ln (atL Sf.cs r x20.toNat 0).fn)])]) <|
  bif !f_eqLB
    (inv ok2_LB ea2_LB
      [(0, false, [C.tr false (T.arr 1 (atL Sf.cs l x20.toNat 0).ln (atL Sf.cs l x20.toNat 0).fn)]),
        (0, false, [C.tr false (T.arr 1 (atL Sf.cs r x20.toNat 0).ln (atL Sf.cs r x20.toNat 0).fn)])]) then
   K .ret (ex_eqSfS_1_1 l r x20)
  else
  K .normal (st_eqSfS_1 l r (IntKind.i64.wrap (x20 + 1)))
 else
 K (.exit 0) (ex_eqSfS_1_2 l r x20)) := by kernel_rfl
theorem post_eqSfS_1_1 (l r : List Sf) (x20 : Int) (n : Nat) : contAt prog (tabS [(i_eqSf, e_eqSf)]) kp_eqSfS F_eqSfS ts_eqSfS [1, 1, 0, 1, 0] [] n .ret (ex_eqSfS_1_1 l r x20) = (
 some ([(false, [.tr true (T.bool false)])], [(false, []), (false, [])])) := by kernel_rfl
theorem post_eqSfS_1_2 (l r : List Sf) (x20 : Int) (n : Nat) : contAt prog (tabS [(i_eqSf, e_eqSf)]) kp_eqSfS F_eqSfS ts_eqSfS [1, 1, 0, 1, 0] [] n (.exit 0) (ex_eqSfS_1_2 l r x20) = (
 some ([(false, [.tr true (T.bool true)])], [(false, []), (false, [])])) := by kernel_rfl
theorem pre_eqSfS (l r : List Sf) (n : Nat) : body prog (tabS [(i_eqSf, e_eqSf)]) kp_eqSfS n F_eqSfS [aT (eL 1 Sf.cs l), aT (eL 1 Sf.cs r)] = (
 bif (↑l.length : Int) != (↑r.length : Int) then
  some ([(false, [.tr true (T.bool false)])], [(false, []), (false, [])])
 else
 loopAt prog (tabS [(i_eqSf, e_eqSf)]) kp_eqSfS F_eqSfS [1, 1, 0, 1, 0] n n (st_eqSfS_1 l r (0)) (contAt prog (tabS [(i_eqSf, e_eqSf)]) kp_eqSfS F_eqSfS ts_eqSfS [1, 1, 0, 1, 0] [] n)) := by kernel_rfl
theorem body_eqSfS (l r : List Sf) (hl : okq_SfS l) : body prog (tabS [(i_eqSf, e_eqSf)]) kp_eqSfS (l.length + 1) F_eqSfS (ea2_SfS (l, r)) = some (erB 2 (f_eqSfS (l, r))) := by
  have hbm := bm
  have hl' : l.length ≤ BM := hl.1
  unfold ea2_SfS f_eqSfS
  dsimp only
  rw [pre_eqSfS, int_ne]
  by_cases h : l.length = r.length
  · rw [decide_eq_true (by omega)]
    simp only [Bool.not_true, cond_false]
    have hst : st_eqSfS_1 l r 0 = (fun i : Nat => st_eqSfS_1 l r (i : Nat)) 0 := rfl
    rw [hst, eqS l r h (fun i : Nat => st_eqSfS_1 l r (i : Nat)) (fun i : Nat => ex_eqSfS_1_1 l r (i : Nat)) (ex_eqSfS_1_2 l r l.length) (fun i x y K hx hy => ?_) (fun K => ?_) (fun i => post_eqSfS_1_1 l r _ _) (post_eqSfS_1_2 l r _ _) _ (Nat.le_refl _)]
    · by_cases e : l = r
      · rw [if_pos e, decide_eq_true e]; rfl
      · rw [if_neg e, decide_eq_false e]; rfl
    · have hi := (List.getElem?_eq_some_iff.1 hx).1
      have hi' := (List.getElem?_eq_some_iff.1 hy).1
      have hxm : x ∈ l := List.mem_of_getElem? hx
      have h0 := (hl.2 _ hxm)
      rw [round_eqSfS_1]
      simp only [lt_d, ge0_d, Int.toNat_natCast, blt_d, ble_self, beq_self, decide_true, cond_true, Bool.and_self, Bool.and_true, Bool.true_and, gd_true, Nat.zero_add, List.getD_cons_zero, List.getD_cons_succ, isI_int, toI_int, isB_bool, toB_bool, eL_T, arr_ln, arr_fn, arr_wd, arr_is, arr_get, hi, hi', atL_of hx, atL_of hy, Sf.cs, int_ne, bool_ne, bool_eq, dm_eqLB h0, iv_eqLB h0, d_eqLB, chain]
      rw [wrapS (by omega)]
      have hxy : (x.b = y.b) ↔ x = y := by
        rcases x with ⟨x0⟩
        rcases y with ⟨y0⟩
        simp [and_assoc]
      simp only [hxy]
    · rw [round_eqSfS_1]
      simp only [lt_d, Nat.lt_irrefl, decide_false, cond_false]
  · rw [decide_eq_false (by omega)]
    have : ¬ l = r := fun e => h (by rw [e])
    rw [decide_eq_false this]
    rfl
theorem s_eqSfS : EntOk prog i_eqSfS e_eqSfS := ent_ok ea2_SfS_inj fun x hx =>
  body_sound (φ := (tabS [(i_eqSf, e_eqSf)])) (tabS_cons s_eqSf tabS_nil) mixed (kp := kp_eqSfS) (n := x.1.length + 1) func148 (c := bodyOf F_eqSfS) (by kernel_rfl) (body_eqSfS x.1 x.2 hx) (name_ok (by kernel_rfl))
theorem dm_toSfS {l : List Sf} (h : ok_SfS l) : dom ok_SfS ea_SfS [(0, false, [C.tr false (T.arr 1 l.length (atL Sf.cs l))])] = true := dom_ea (ea := ea_SfS) (x := l) h
theorem iv_toSfS {l : List Sf} (h : ok_SfS l) : inv ok_SfS ea_SfS [(0, false, [C.tr false (T.arr 1 l.length (atL Sf.cs l))])] = l := inv_ea ea_SfS_inj (x := l) h
theorem dm_eqSfS {l r : List Sf} (h : okq_SfS l) : dom ok2_SfS ea2_SfS [(0, false, [C.tr false (T.arr 1 l.length (atL Sf.cs l))]), (0, false, [C.tr false (T.arr 1 r.length (atL Sf.cs r))])] = true := dom_ea (ea := ea2_SfS) (x := (l, r)) h
theorem iv_eqSfS {l r : List Sf} (h : okq_SfS l) : inv ok2_SfS ea2_SfS [(0, false, [C.tr false (T.arr 1 l.length (atL Sf.cs l))]), (0, false, [C.tr false (T.arr 1 r.length (atL Sf.cs r))])] = (l, r) := inv_ea ea2_SfS_inj (x := (l, r)) h
theorem d_eqSfS (l r : List Sf) : f_eqSfS (l, r) = decide (l = r) := rfl
def m1_SfS (x : Sf) (k : Int) : Sf := ⟨(mk_LB x.b (k))⟩
def c1_SfS (x : Sf) : Nat := cntL c1_LB x.b
def okh_SfS (x : List Sf × Int) : Prop := okq_SfS x.1 ∧ 0 ≤ x.2 ∧ x.2 + cntL c1_SfS x.1 ≤ BM
def eah_SfS (x : List Sf × Int) : List Arg := [aT (eL 1 Sf.cs x.1), aI x.2]
def eam_SfS (x : List Sf × Int) : List Arg := [lT (eL 1 Sf.cs x.1), aI x.2]
def mk_SfS (l : List Sf) (k : Int) : List Sf := markL m1_SfS c1_SfS l k
def f_hdSfS (x : List Sf × Int) : Int := if x.1 = mk_SfS x.1 x.2 then x.2 + cntL c1_SfS x.1 else -1
def f_mkSfS (x : List Sf × Int) : List Sf := mk_SfS x.1 x.2
def f_ctSfS (x : List Sf × Int) : Int := x.2 + cntL c1_SfS x.1
noncomputable def e_hdSfS : Ent := ent [] okh_SfS eah_SfS (erI 2) f_hdSfS
noncomputable def e_mkSfS : Ent := ent [1] okh_SfS eam_SfS (fun x => ([oT (.int .i64 (f_ctSfS x))], [oT (eL 1 Sf.cs (f_mkSfS x)), nul])) fun x => x
theorem eah_SfS_inj (x y : List Sf × Int) (h : eah_SfS x = eah_SfS y) : x = y := by
  simp only [eah_SfS, aI, aT, List.cons.injEq, Prod.mk.injEq, true_and, and_true, C.tr.injEq, T.int.injEq] at h
  exact Prod.ext (eL_inj Sf.cs_inj h.1) h.2
theorem eam_SfS_inj (x y : List Sf × Int) (h : eam_SfS x = eam_SfS y) : x = y := by
  simp only [eam_SfS, lT, aI, aT, List.cons.injEq, Prod.mk.injEq, true_and, and_true, C.tr.injEq, T.int.injEq] at h
  exact Prod.ext (eL_inj Sf.cs_inj h.1) h.2
def i_hdSfS : Nat := 118
noncomputable abbrev F_hdSfS : Func := f118
def kp_hdSfS : List (Nat × List Nat) := [(0, [0, 4]), (1, [0, 4, 20]), (2, [0, 4, 20, 36]), (3, [0, 4, 20]), (4, [0, 4, 20]), (5, [0, 4, 20, 80]), (6, [16]), (7, [16])]
def ts_hdSfS : List Nat := [0, 0]
def st_hdSfS_1 (l : List Sf) (k : Int) (x4 : Int) (x20 : Int) : St := [(0, ⟨z0, [(false, [.tr false (eL 1 Sf.cs l)])]⟩), (4, ⟨z0, [(false, [.tr true (T.int IntKind.i64 x4)])]⟩), (20, ⟨z0, [(false, [.tr true (T.int IntKind.i64 x20)])]⟩)]
def ex_hdSfS_1_1 (l : List Sf) (k : Int) (x4 : Int) (x20 : Int) : St := [(16, ⟨z0, [(false, [.tr true (T.int IntKind.i64 (-1))])]⟩)]
def ex_hdSfS_1_2 (l : List Sf) (k : Int) (x4 : Int) (x20 : Int) : St := [(0, ⟨z0, [(false, [.tr false (eL 1 Sf.cs l)])]⟩), (4, ⟨z0, [(false, [.tr true (T.int IntKind.i64 x4)])]⟩), (20, ⟨z0, [(false, [.tr true (T.int IntKind.i64 x20)])]⟩), (36, ⟨z0, []⟩)]
theorem round_hdSfS_1 (l : List Sf) (k : Int) (x4 : Int) (x20 : Int) (n : Nat) (K : Ex → St → Res) : roundAt prog (tabS [(i_hdLB, e_hdLB)]) kp_hdSfS F_hdSfS [1, 0, 1, 0] n (st_hdSfS_1 l k x4 x20) K = (
 bif decide (x20 < (↑l.length : Int)) then
  gd (decide (0 ≤ x20) && (x20.toNat.blt l.length && true)) <|
  gd ((atL Sf.cs l x20.toNat 0).isArr && (atL Sf.cs l x20.toNat 0).wd.beq 1) <|
  gd (dom okh_LB eah_LB
  [(0, false, [C.tr false (T.arr 1 (atL Sf.cs l x20.toNat 0).ln (atL Sf.cs l x20.toNat 0).fn)]),
    (0, false, [C.tr false (T.int IntKind.i64 x4)])]) <|
  bif decide
  (f_hdLB
      (inv okh_LB eah_LB
        [(0, false, [C.tr false (T.arr 1 (atL Sf.cs l x20.toNat 0).ln (atL Sf.cs l x20.toNat 0).fn)]),
          (0, false, [C.tr false (T.int IntKind.i64 x4)])]) <
    0) then
   K .ret (ex_hdSfS_1_1 l k x4 x20)
  else
  K .normal (st_hdSfS_1 l k (f_hdLB
  (inv okh_LB eah_LB
    [(0, false, [C.tr false (T.arr 1 (atL Sf.cs l x20.toNat 0).ln (atL Sf.cs l x20.toNat 0).fn)]),
      (0, false, [C.tr false (T.int IntKind.i64 x4)])])) (IntKind.i64.wrap (x20 + 1)))
 else
 K (.exit 0) (ex_hdSfS_1_2 l k x4 x20)) := by kernel_rfl
theorem post_hdSfS_1_1 (l : List Sf) (k : Int) (x4 : Int) (x20 : Int) (n : Nat) : contAt prog (tabS [(i_hdLB, e_hdLB)]) kp_hdSfS F_hdSfS ts_hdSfS [1, 0, 1, 0] [] n .ret (ex_hdSfS_1_1 l k x4 x20) = (
 some ([(false, [.tr true (T.int IntKind.i64 (-1))])], [(false, []), (false, [])])) := by kernel_rfl
theorem post_hdSfS_1_2 (l : List Sf) (k : Int) (x4 : Int) (x20 : Int) (n : Nat) : contAt prog (tabS [(i_hdLB, e_hdLB)]) kp_hdSfS F_hdSfS ts_hdSfS [1, 0, 1, 0] [] n (.exit 0) (ex_hdSfS_1_2 l k x4 x20) = (
 some ([(false, [.tr true (T.int IntKind.i64 x4)])], [(false, []), (false, [])])) := by kernel_rfl
theorem pre_hdSfS (l : List Sf) (k : Int) (n : Nat) : body prog (tabS [(i_hdLB, e_hdLB)]) kp_hdSfS n F_hdSfS [aT (eL 1 Sf.cs l), aI k] = (
 loopAt prog (tabS [(i_hdLB, e_hdLB)]) kp_hdSfS F_hdSfS [1, 0, 1, 0] n n (st_hdSfS_1 l k (k) (0)) (contAt prog (tabS [(i_hdLB, e_hdLB)]) kp_hdSfS F_hdSfS ts_hdSfS [1, 0, 1, 0] [] n)) := by kernel_rfl
theorem body_hdSfS (l : List Sf) (k : Int) (h : okh_SfS (l, k)) : body prog (tabS [(i_hdLB, e_hdLB)]) kp_hdSfS (l.length + 1) F_hdSfS (eah_SfS (l, k)) = some (erI 2 (f_hdSfS (l, k))) := by
  obtain ⟨hl, hk0, hk1⟩ := h
  have hbm := bm
  dsimp only at hl hk0 hk1
  have hl' : l.length ≤ BM := hl.1
  unfold eah_SfS f_hdSfS
  dsimp only
  rw [pre_hdSfS]
  have hst : st_hdSfS_1 l k k 0 = (fun i : Nat => st_hdSfS_1 l k (k + cntL c1_SfS (l.take i)) (i : Nat)) 0 := by simp [cntL]
  rw [hst, heldS m1_SfS c1_SfS l k (fun i : Nat => st_hdSfS_1 l k (k + cntL c1_SfS (l.take i)) (i : Nat)) (fun i : Nat => ex_hdSfS_1_1 l k (k + cntL c1_SfS (l.take i)) (i : Nat)) (ex_hdSfS_1_2 l k (k + cntL c1_SfS l) l.length) (fun i x K hx => ?_) (fun K => ?_) (fun i => post_hdSfS_1_1 l k _ _ _) (post_hdSfS_1_2 l k _ _ _) _ (Nat.le_refl _)]
  · unfold mk_SfS
    split <;> rfl
  · have hi := (List.getElem?_eq_some_iff.1 hx).1
    have hxm : x ∈ l := List.mem_of_getElem? hx
    have hc := cntL_take c1_SfS l hx
    have hcl := cntL_le c1_SfS l (i + 1)
    have hcx : c1_SfS x = cntL c1_LB x.b := rfl
    have h0 := (hl.2 _ hxm)
    rw [hc, round_hdSfS_1]
    obtain ⟨k0, hk⟩ : ∃ k0, k0 = k + (cntL c1_SfS (l.take i) : Int) := ⟨_, rfl⟩
    have hk2 : k + ((cntL c1_SfS (l.take i) + c1_SfS x : Nat) : Int) = k0 + cntL c1_LB x.b := by omega
    rw [hk2, ← hk]
    have g0 : okh_LB (x.b, k0) := ⟨h0, by dsimp only; omega, by dsimp only; omega⟩
    simp (disch := omega) only [lt_d, ge0_d, Int.toNat_natCast, blt_d, ble_self, beq_self, decide_true, cond_true, Bool.and_self, Bool.and_true, Bool.true_and, gd_true, Nat.zero_add, List.getD_cons_zero, List.getD_cons_succ, isI_int, toI_int, isB_bool, toB_bool, eL_T, arr_ln, arr_fn, arr_wd, arr_is, arr_get, hi, atL_of hx, Sf.cs, int_ne, bool_ne, wrapI, wrapS]
    simp only [dm_hdLB g0, iv_hdLB g0, gd_true]
    by_cases e0 : x.b = mk_LB x.b (k0)
    case neg =>
      simp only [n_hdLB e0]
      rw [decide_eq_false (show ¬ x = m1_SfS x k0 from fun e => e0 (congrArg (fun z : Sf => z.b) e))]
      rfl
    simp only [y_hdLB e0]
    rw [decide_eq_false (show ¬ k0 + (cntL c1_LB x.b : Int) < 0 by omega)]
    simp (disch := omega) only [cond_false, wrapI]
    have hm : x = m1_SfS x k0 := by
      rcases x with ⟨x0⟩
      simp only [m1_SfS, Sf.mk.injEq]
      exact e0
    rw [decide_eq_true hm]
    simp only [Bool.not_true, cond_false]
    congr 2
  · rw [round_hdSfS_1]
    simp only [lt_d, Nat.lt_irrefl, decide_false, cond_false, List.take_length]
theorem s_hdSfS : EntOk prog i_hdSfS e_hdSfS := ent_ok eah_SfS_inj fun x hx =>
  body_sound (φ := (tabS [(i_hdLB, e_hdLB)])) (tabS_cons s_hdLB tabS_nil) mixed (kp := kp_hdSfS) (n := x.1.length + 1) func118 (c := bodyOf F_hdSfS) (by kernel_rfl) (body_hdSfS x.1 x.2 hx) (name_ok (by kernel_rfl))
def i_mkSfS : Nat := 116
noncomputable abbrev F_mkSfS : Func := f116
def kp_mkSfS : List (Nat × List Nat) := [(0, [0, 4, 2]), (1, [0, 4, 20, 2]), (2, [0, 4, 20, 36, 2]), (3, [0, 4, 20, 2]), (4, [0, 4, 20, 2]), (5, [16, 2])]
def ts_mkSfS : List Nat := [1, 0]
def st_mkSfS_1 (l : List Sf) (k : Int) (x4 : Int) (x20 : Int) (nx2 : Nat) (fx2 : Nat → Nat → T) : St := [(0, ⟨z0, [(false, [(C.ref 2 0 [0, 0] 1 0 l.length)])]⟩), (4, ⟨z0, [(false, [.tr true (T.int IntKind.i64 x4)])]⟩), (20, ⟨z0, [(false, [.tr true (T.int IntKind.i64 x20)])]⟩), (2, ⟨z0, [(false, [.tr true (.arr (1) (nx2) (fx2))])]⟩)]
def ex_mkSfS_1_1 (l : List Sf) (k : Int) (x4 : Int) (x20 : Int) (nx2 : Nat) (fx2 : Nat → Nat → T) : St := [(0, ⟨z0, [(false, [(C.ref 2 0 [0, 0] 1 0 l.length)])]⟩), (4, ⟨z0, [(false, [.tr true (T.int IntKind.i64 x4)])]⟩), (20, ⟨z0, [(false, [.tr true (T.int IntKind.i64 x20)])]⟩), (36, ⟨z0, []⟩), (2, ⟨z0, [(false, [.tr true (.arr (1) (nx2) (fx2))])]⟩)]
theorem round_mkSfS_1 (l : List Sf) (k : Int) (x4 : Int) (x20 : Int) (nx2 : Nat) (fx2 : Nat → Nat → T) (n : Nat) (K : Ex → St → Res) : roundAt prog (tabS [(i_mkLB, e_mkLB)]) kp_mkSfS F_mkSfS [1, 0, 1, 0] n (st_mkSfS_1 l k x4 x20 nx2 fx2) K = (
 bif decide (x20 < (↑l.length : Int)) then
  gd (decide (0 ≤ x20) && (x20.toNat.blt l.length && true)) <|
  gd ((0 + x20.toNat).blt nx2 && true && ((fx2 (0 + x20.toNat) (0 + 0)).isArr && (fx2 (0 + x20.toNat) (0 + 0)).wd.beq 1)) <|
  gd ((0 + x20.toNat).blt nx2 && true && true && ((T.arr 1 nx2 fx2).get [0 + x20.toNat, 0 + 0]).isArr) <|
  gd ((fx2 (0 + x20.toNat) (0 + 0)).ln.beq ((T.arr 1 nx2 fx2).get [0 + x20.toNat, 0 + 0]).ln &&
  Nat.beq 1 ((T.arr 1 nx2 fx2).get [0 + x20.toNat, 0 + 0]).wd) <|
  gd (dom okh_LB eam_LB
  [(1, false, [C.tr true (T.arr 1 (fx2 (0 + x20.toNat) (0 + 0)).ln ((T.arr 1 nx2 fx2).get [0 + x20.toNat, 0 + 0]).fn)]),
    (0, false, [C.tr false (T.int IntKind.i64 x4)])]) <|
  gd ((fx2 (0 + x20.toNat) (0 + 0)).ln.beq
    (f_mkLB
        (inv okh_LB eam_LB
          [(1, false,
              [C.tr true (T.arr 1 (fx2 (0 + x20.toNat) (0 + 0)).ln ((T.arr 1 nx2 fx2).get [0 + x20.toNat, 0 + 0]).fn)]),
            (0, false, [C.tr false (T.int IntKind.i64 x4)])])).length &&
  ((0 + x20.toNat).blt nx2 && true && true)) <|
  K .normal (st_mkSfS_1 l k (f_ctLB
  (inv okh_LB eam_LB
    [(1, false,
        [C.tr true (T.arr 1 (fx2 (0 + x20.toNat) (0 + 0)).ln ((T.arr 1 nx2 fx2).get [0 + x20.toNat, 0 + 0]).fn)]),
      (0, false, [C.tr false (T.int IntKind.i64 x4)])])) (IntKind.i64.wrap (x20 + 1)) (nx2) (setF (0 + x20.toNat) (0 + 0)
  (T.arr 1
    (f_mkLB
        (inv okh_LB eam_LB
          [(1, false,
              [C.tr true (T.arr 1 (fx2 (0 + x20.toNat) (0 + 0)).ln ((T.arr 1 nx2 fx2).get [0 + x20.toNat, 0 + 0]).fn)]),
            (0, false, [C.tr false (T.int IntKind.i64 x4)])])).length
    (atL rowB
      (f_mkLB
        (inv okh_LB eam_LB
          [(1, false,
              [C.tr true (T.arr 1 (fx2 (0 + x20.toNat) (0 + 0)).ln ((T.arr 1 nx2 fx2).get [0 + x20.toNat, 0 + 0]).fn)]),
            (0, false, [C.tr false (T.int IntKind.i64 x4)])]))))
  (setF (0 + x20.toNat) (0 + 0) (T.lent 1 (fx2 (0 + x20.toNat) (0 + 0)).ln) fx2)))
 else
 K (.exit 0) (ex_mkSfS_1_1 l k x4 x20 nx2 fx2)) := by kernel_rfl
theorem post_mkSfS_1_1 (l : List Sf) (k : Int) (x4 : Int) (x20 : Int) (nx2 : Nat) (fx2 : Nat → Nat → T) (n : Nat) : contAt prog (tabS [(i_mkLB, e_mkLB)]) kp_mkSfS F_mkSfS ts_mkSfS [1, 0, 1, 0] [] n (.exit 0) (ex_mkSfS_1_1 l k x4 x20 nx2 fx2) = (
 some ([(false, [.tr true (T.int IntKind.i64 x4)])], [(false, [.tr true (.arr (1) (nx2) (fx2))]), (false, [])])) := by kernel_rfl
theorem pre_mkSfS (l : List Sf) (k : Int) (n : Nat) : body prog (tabS [(i_mkLB, e_mkLB)]) kp_mkSfS n F_mkSfS [lT (eL 1 Sf.cs l), aI k] = (
 loopAt prog (tabS [(i_mkLB, e_mkLB)]) kp_mkSfS F_mkSfS [1, 0, 1, 0] n n (st_mkSfS_1 l k (k) (0) (T.ln (eL 1 Sf.cs l)) (T.fn (eL 1 Sf.cs l))) (contAt prog (tabS [(i_mkLB, e_mkLB)]) kp_mkSfS F_mkSfS ts_mkSfS [1, 0, 1, 0] [] n)) := by kernel_rfl
theorem body_mkSfS (l : List Sf) (k : Int) (h : okh_SfS (l, k)) : body prog (tabS [(i_mkLB, e_mkLB)]) kp_mkSfS (l.length + 1) F_mkSfS (eam_SfS (l, k)) = some ([oT (.int .i64 (f_ctSfS (l, k)))], [oT (eL 1 Sf.cs (f_mkSfS (l, k))), nul]) := by
  obtain ⟨hl, hk0, hk1⟩ := h
  have hbm := bm
  dsimp only at hl hk0 hk1
  have hl' : l.length ≤ BM := hl.1
  unfold eam_SfS f_ctSfS f_mkSfS
  dsimp only
  rw [pre_mkSfS]
  have hst : st_mkSfS_1 l k k 0 l.length (atL Sf.cs l) = (fun i : Nat => st_mkSfS_1 l k (k + cntL c1_SfS (l.take i)) (i : Nat) l.length (atL Sf.cs (mkd m1_SfS c1_SfS l k i))) 0 := by simp [cntL, mkd_zero]
  refine Eq.trans (congrArg (fun s => loopAt prog _ _ _ _ _ _ s _) hst) ?_
  rw [forLoop l.length (fun i : Nat => st_mkSfS_1 l k (k + cntL c1_SfS (l.take i)) (i : Nat) l.length (atL Sf.cs (mkd m1_SfS c1_SfS l k i))) (ex_mkSfS_1_1 l k (k + cntL c1_SfS l) l.length l.length (atL Sf.cs (mk_SfS l k))) 0 (fun i K hi => ?_) (fun K => ?_) _ (Nat.le_refl _)]
  · rw [post_mkSfS_1_1]
    have := markL_len m1_SfS c1_SfS l k
    rw [eL_T, show (mk_SfS l k).length = l.length from this]
    rfl
  · have hx := List.getElem?_eq_getElem hi
    obtain ⟨x, hxe⟩ : ∃ x, x = l[i] := ⟨_, rfl⟩
    rw [← hxe] at hx
    have hxm : x ∈ l := List.mem_of_getElem? hx
    have hg := mkd_get m1_SfS c1_SfS l k hx
    have hc := cntL_take c1_SfS l hx
    have hcl := cntL_le c1_SfS l (i + 1)
    have hcx : c1_SfS x = cntL c1_LB x.b := rfl
    have h0 := (hl.2 _ hxm)
    rw [hc, round_mkSfS_1]
    have hms := mkd_set m1_SfS c1_SfS l k hx
    have hml : i < (mkd m1_SfS c1_SfS l k i).length := by rw [mkd_len _ _ _ _ (by omega)]; exact hi
    obtain ⟨k0, hk⟩ : ∃ k0, k0 = k + (cntL c1_SfS (l.take i) : Int) := ⟨_, rfl⟩
    have hk2 : k + ((cntL c1_SfS (l.take i) + c1_SfS x : Nat) : Int) = k0 + cntL c1_LB x.b := by omega
    rw [hk2]
    rw [← hk] at hms ⊢
    have g0 : okh_LB (x.b, k0) := ⟨h0, by dsimp only; omega, by dsimp only; omega⟩
    simp (disch := omega) only [lt_d, ge0_d, Int.toNat_natCast, blt_d, ble_self, beq_self, decide_true, cond_true, Bool.and_self, Bool.and_true, Bool.true_and, gd_true, Nat.zero_add, List.getD_cons_zero, List.getD_cons_succ, isI_int, toI_int, isB_bool, toB_bool, eL_T, arr_ln, arr_fn, arr_wd, arr_is, arr_get, hi, atL_of hg, Sf.cs, wrapI, wrapS, setF_d, and_self, if_true, dm_mkLB g0, iv_mkLB g0, len_mkLB, d_mkLB, d_ctLB]
    rw [← hms]
    congr 2
    refine set_atL hml fun j' k' => ?_
    by_cases e : j' = i
    · subst e
      rcases k' with _ | k' <;> simp [setF_d, Sf.cs, m1_SfS, atL_of hg, eL_T, len_mkLB]
    · simp [setF_d, e]
  · rw [round_mkSfS_1, mkd_all]
    simp only [lt_d, Nat.lt_irrefl, decide_false, cond_false, List.take_length]
    rfl
theorem s_mkSfS : EntOk prog i_mkSfS e_mkSfS := ent_ok eam_SfS_inj fun x hx =>
  body_sound (φ := (tabS [(i_mkLB, e_mkLB)])) (tabS_cons s_mkLB tabS_nil) mixed (kp := kp_mkSfS) (n := x.1.length + 1) func116 (c := bodyOf F_mkSfS) (by kernel_rfl) (body_mkSfS x.1 x.2 hx) (name_ok (by kernel_rfl))
theorem dm_hdSfS {l : List Sf} {k : Int} (h : okh_SfS (l, k)) : dom okh_SfS eah_SfS [(0, false, [C.tr false (T.arr 1 l.length (atL Sf.cs l))]), (0, false, [C.tr false (T.int IntKind.i64 k)])] = true := dom_ea (ea := eah_SfS) (x := (l, k)) h
theorem iv_hdSfS {l : List Sf} {k : Int} (h : okh_SfS (l, k)) : inv okh_SfS eah_SfS [(0, false, [C.tr false (T.arr 1 l.length (atL Sf.cs l))]), (0, false, [C.tr false (T.int IntKind.i64 k)])] = (l, k) := inv_ea eah_SfS_inj (x := (l, k)) h
theorem y_hdSfS {l : List Sf} {k : Int} (h : l = mk_SfS l k) : f_hdSfS (l, k) = k + cntL c1_SfS l := if_pos h
theorem n_hdSfS {l : List Sf} {k : Int} (h : ¬ l = mk_SfS l k) : f_hdSfS (l, k) = -1 := if_neg h
theorem dm_mkSfS {l : List Sf} {k : Int} (h : okh_SfS (l, k)) : dom okh_SfS eam_SfS [(1, false, [C.tr true (T.arr 1 l.length (atL Sf.cs l))]), (0, false, [C.tr false (T.int IntKind.i64 k)])] = true := dom_ea (ea := eam_SfS) (x := (l, k)) h
theorem iv_mkSfS {l : List Sf} {k : Int} (h : okh_SfS (l, k)) : inv okh_SfS eam_SfS [(1, false, [C.tr true (T.arr 1 l.length (atL Sf.cs l))]), (0, false, [C.tr false (T.int IntKind.i64 k)])] = (l, k) := inv_ea eam_SfS_inj (x := (l, k)) h
theorem len_mkSfS (l : List Sf) (k : Int) : (mk_SfS l k).length = l.length := markL_len _ _ _ _
theorem d_mkSfS (l : List Sf) (k : Int) : f_mkSfS (l, k) = mk_SfS l k := rfl
theorem d_ctSfS (l : List Sf) (k : Int) : f_ctSfS (l, k) = k + cntL c1_SfS l := rfl
def n1_SfS (x : Sf) : Nat := n_LB x.b
def n_SfS (l : List Sf) : Nat := l.length + cntL n1_SfS l
def okz_SfS (l : List Sf) : Prop := l.length ≤ ZM ∧ ∀ x ∈ l, okz_LB x.b
def okzz_SfS (x : List Sf × Int) : Prop := okz_SfS x.1 ∧ 0 ≤ x.2 ∧ x.2 ≤ LM
def eaz_SfS (x : List Sf × Int) : List Arg := [aT (eL 1 Sf.cs x.1), aI x.2]
def f_szSfS (x : List Sf × Int) : Int := if (n_SfS x.1 : Int) ≤ x.2 then x.2 - n_SfS x.1 else -1
noncomputable def e_szSfS : Ent := ent [] okzz_SfS eaz_SfS (erI 2) f_szSfS
theorem eaz_SfS_inj (x y : List Sf × Int) (h : eaz_SfS x = eaz_SfS y) : x = y := by
  simp only [eaz_SfS, aI, aT, List.cons.injEq, Prod.mk.injEq, true_and, and_true, C.tr.injEq, T.int.injEq] at h
  exact Prod.ext (eL_inj Sf.cs_inj h.1) h.2
theorem dm_szSfS {l : List Sf} {k : Int} (h : okzz_SfS (l, k)) : dom okzz_SfS eaz_SfS [(0, false, [C.tr false (T.arr 1 l.length (atL Sf.cs l))]), (0, false, [C.tr false (T.int IntKind.i64 k)])] = true := dom_ea (ea := eaz_SfS) (x := (l, k)) h
theorem iv_szSfS {l : List Sf} {k : Int} (h : okzz_SfS (l, k)) : inv okzz_SfS eaz_SfS [(0, false, [C.tr false (T.arr 1 l.length (atL Sf.cs l))]), (0, false, [C.tr false (T.int IntKind.i64 k)])] = (l, k) := inv_ea eaz_SfS_inj (x := (l, k)) h
theorem y_szSfS {l : List Sf} {k : Int} (h : (n_SfS l : Int) ≤ k) : f_szSfS (l, k) = k - n_SfS l := if_pos h
theorem n_szSfS {l : List Sf} {k : Int} (h : ¬ (n_SfS l : Int) ≤ k) : f_szSfS (l, k) = -1 := if_neg h
def i_szSfS : Nat := 138
noncomputable abbrev F_szSfS : Func := f138
def kp_szSfS : List (Nat × List Nat) := [(0, [0, 4]), (1, [0, 4]), (2, [0, 4, 44]), (3, [16]), (4, [0, 4, 20]), (5, [0, 4, 20, 60]), (6, [0, 4, 20]), (7, [0, 4, 20]), (8, [0, 4, 20, 100]), (9, [16]), (10, [16])]
def ts_szSfS : List Nat := [0, 0]
def st_szSfS_1 (l : List Sf) (k : Int) (x4 : Int) (x20 : Int) : St := [(0, ⟨z0, [(false, [.tr false (eL 1 Sf.cs l)])]⟩), (4, ⟨z0, [(false, [.tr true (T.int IntKind.i64 x4)])]⟩), (20, ⟨z0, [(false, [.tr true (T.int IntKind.i64 x20)])]⟩)]
def ex_szSfS_1_1 (l : List Sf) (k : Int) (x4 : Int) (x20 : Int) : St := [(16, ⟨z0, [(false, [.tr true (T.int IntKind.i64 (-1))])]⟩)]
def ex_szSfS_1_2 (l : List Sf) (k : Int) (x4 : Int) (x20 : Int) : St := [(0, ⟨z0, [(false, [.tr false (eL 1 Sf.cs l)])]⟩), (4, ⟨z0, [(false, [.tr true (T.int IntKind.i64 x4)])]⟩), (20, ⟨z0, [(false, [.tr true (T.int IntKind.i64 x20)])]⟩), (60, ⟨z0, []⟩)]
theorem round_szSfS_1 (l : List Sf) (k : Int) (x4 : Int) (x20 : Int) (n : Nat) (K : Ex → St → Res) : roundAt prog (tabS [(i_szSf, e_szSf)]) kp_szSfS F_szSfS [1, 1, 1, 0, 1, 0] n (st_szSfS_1 l k x4 x20) K = (
 bif decide (x20 < (↑l.length : Int)) then
  gd (decide (0 ≤ x20) && (x20.toNat.blt l.length && true)) <|
  gd ((atL Sf.cs l x20.toNat 0).isArr && (atL Sf.cs l x20.toNat 0).wd.beq 1) <|
  bif decide (IntKind.i64.wrap (x4 - (↑(atL Sf.cs l x20.toNat 0).ln : Int)) < 0) then
   K .ret (ex_szSfS_1_1 l k x4 x20)
  else
  bif decide (IntKind.i64.wrap (x4 - (↑(atL Sf.cs l x20.toNat 0).ln : Int)) < 0) then
   K .ret (ex_szSfS_1_1 l k x4 x20)
  else
  bif decide (IntKind.i64.wrap (x4 - (↑(atL Sf.cs l x20.toNat 0).ln : Int)) < 0) then
   K .ret (ex_szSfS_1_1 l k x4 x20)
  else
  K .normal (st_szSfS_1 l k (IntKind.i64.wrap (x4 - (↑(atL Sf.cs l x20.toNat 0).ln : Int))) (IntKind.i64.wrap (x20 + 1)))
 else
 K (.exit 0) (ex_szSfS_1_2 l k x4 x20)) := by kernel_rfl
theorem post_szSfS_1_1 (l : List Sf) (k : Int) (x4 : Int) (x20 : Int) (n : Nat) : contAt prog (tabS [(i_szSf, e_szSf)]) kp_szSfS F_szSfS ts_szSfS [1, 1, 1, 0, 1, 0] [] n .ret (ex_szSfS_1_1 l k x4 x20) = (
 some ([(false, [.tr true (T.int IntKind.i64 (-1))])], [(false, []), (false, [])])) := by kernel_rfl
theorem post_szSfS_1_2 (l : List Sf) (k : Int) (x4 : Int) (x20 : Int) (n : Nat) : contAt prog (tabS [(i_szSf, e_szSf)]) kp_szSfS F_szSfS ts_szSfS [1, 1, 1, 0, 1, 0] [] n (.exit 0) (ex_szSfS_1_2 l k x4 x20) = (
 some ([(false, [.tr true (T.int IntKind.i64 x4)])], [(false, []), (false, [])])) := by kernel_rfl
theorem pre_szSfS (l : List Sf) (k : Int) (n : Nat) : body prog (tabS [(i_szSf, e_szSf)]) kp_szSfS n F_szSfS [aT (eL 1 Sf.cs l), aI k] = (
 bif decide (IntKind.i64.wrap (k - (↑l.length : Int)) < 0) then
  some ([(false, [.tr true (T.int IntKind.i64 (-1))])], [(false, []), (false, [])])
 else
 loopAt prog (tabS [(i_szSf, e_szSf)]) kp_szSfS F_szSfS [1, 1, 1, 0, 1, 0] n n (st_szSfS_1 l k (IntKind.i64.wrap (k - (↑l.length : Int))) (0)) (contAt prog (tabS [(i_szSf, e_szSf)]) kp_szSfS F_szSfS ts_szSfS [1, 1, 1, 0, 1, 0] [] n)) := by kernel_rfl
theorem round1_szSfS (l : List Sf) (k : Int) (hl : okz_SfS l) {n : Nat} (i : Nat) (x : Sf) (K : Ex → St → Res) (hx : l[i]? = some x) (hr : (cntL n1_SfS (l.take i) : Int) ≤ k - (l.length : Int)) (hk1 : k ≤ LM) : roundAt prog (tabS [(i_szSf, e_szSf)]) kp_szSfS F_szSfS [1, 1, 1, 0, 1, 0] n (st_szSfS_1 l k (k - (l.length : Int) - cntL n1_SfS (l.take i)) (i : Nat)) K = bif decide (k - (l.length : Int) - cntL n1_SfS (l.take i) < n1_SfS x) then K .ret (ex_szSfS_1_1 l k (k - (l.length : Int) - cntL n1_SfS (l.take i)) (i : Nat)) else K .normal (st_szSfS_1 l k (k - (l.length : Int) - cntL n1_SfS (l.take (i + 1))) ((i + 1 : Nat) : Int)) := by
    have hzm := zm
    have hlm := lm
    have hl' : l.length ≤ ZM := hl.1
    have hi := (List.getElem?_eq_some_iff.1 hx).1
    have hxm : x ∈ l := List.mem_of_getElem? hx
    have hc := cntL_take n1_SfS l hx
    have hcx : n1_SfS x = x.b.length := rfl
    rw [hc, round_szSfS_1]
    obtain ⟨k0, hk⟩ : ∃ k0, k0 = k - (l.length : Int) - (cntL n1_SfS (l.take i) : Int) := ⟨_, rfl⟩
    have hk2 : k - (l.length : Int) - ((cntL n1_SfS (l.take i) + n1_SfS x : Nat) : Int) = k0 - (x.b.length : Int) := by omega
    rw [hk2, ← hk]
    have hk3 : 0 ≤ k0 := by omega
    have hk4 : k0 ≤ LM := by omega
    simp (disch := omega) only [lt_d, ge0_d, Int.toNat_natCast, blt_d, ble_self, beq_self, decide_true, cond_true, Bool.and_self, Bool.and_true, Bool.true_and, gd_true, Nat.zero_add, List.getD_cons_zero, List.getD_cons_succ, isI_int, toI_int, isB_bool, toB_bool, eL_T, arr_ln, arr_fn, arr_wd, arr_is, arr_get, hi, atL_of hx, Sf.cs, wrapS]
    have h0 : x.b.length ≤ ZM := (hl.2 _ hxm)
    try simp (disch := omega) only [wrapI]
    by_cases e0 : k0 - (x.b.length : Int) < 0
    case pos =>
      rw [decide_eq_true e0, decide_eq_true (show k0 < (n1_SfS x : Int) by omega)]
      rfl
    simp (disch := omega) only [decide_eq_false e0, cond_false, wrapI]
    rw [decide_eq_false (show ¬ k0 < (n1_SfS x : Int) by omega)]
    simp only [cond_false]
    try congr 2
    try omega
theorem body_szSfS (l : List Sf) (k : Int) (h : okzz_SfS (l, k)) : body prog (tabS [(i_szSf, e_szSf)]) kp_szSfS (l.length + 1) F_szSfS (eaz_SfS (l, k)) = some (erI 2 (f_szSfS (l, k))) := by
  obtain ⟨hl, hk0, hk1⟩ := h
  have hzm := zm
  have hlm := lm
  dsimp only at hl hk0 hk1
  have hl' : l.length ≤ ZM := hl.1
  have hn : n_SfS l = l.length + cntL n1_SfS l := rfl
  unfold eaz_SfS f_szSfS
  dsimp only
  rw [pre_szSfS]
  simp (disch := omega) only [wrapI]
  by_cases hs : k - (l.length : Int) < 0
  · rw [decide_eq_true hs, if_neg (by omega)]
    rfl
  · rw [decide_eq_false hs]
    simp only [cond_false]
    have hst : st_szSfS_1 l k (k - (l.length : Int)) 0 = (fun i : Nat => st_szSfS_1 l k (k - (l.length : Int) - cntL n1_SfS (l.take i)) (i : Nat)) 0 := by simp [cntL]
    rw [hst, szS n1_SfS l (k - (l.length : Int)) (by omega) (fun i : Nat => st_szSfS_1 l k (k - (l.length : Int) - cntL n1_SfS (l.take i)) (i : Nat)) (fun i : Nat => ex_szSfS_1_1 l k (k - (l.length : Int) - cntL n1_SfS (l.take i)) (i : Nat)) (ex_szSfS_1_2 l k (k - (l.length : Int) - cntL n1_SfS l) l.length) (fun i x K hx hr => ?_) (fun K hr => ?_) (fun i => post_szSfS_1_1 l k _ _ _) (post_szSfS_1_2 l k _ _ _) _ (Nat.le_refl _)]
    · by_cases hq : (cntL n1_SfS l : Int) ≤ k - (l.length : Int)
      · rw [if_pos hq, if_pos (by omega), show k - (l.length : Int) - (cntL n1_SfS l : Int) = k - (n_SfS l : Int) by omega]
        rfl
      · rw [if_neg hq, if_neg (by omega)]
        rfl
    · exact round1_szSfS l k hl i x K hx hr hk1
    · rw [round_szSfS_1]
      simp only [lt_d, Nat.lt_irrefl, decide_false, cond_false, List.take_length]
theorem s_szSfS : EntOk prog i_szSfS e_szSfS := ent_ok eaz_SfS_inj fun x hx =>
  body_sound (φ := (tabS [(i_szSf, e_szSf)])) (tabS_cons s_szSf tabS_nil) mixed (kp := kp_szSfS) (n := x.1.length + 1) func138 (c := bodyOf F_szSfS) (by kernel_rfl) (body_szSfS x.1 x.2 hx) (name_ok (by kernel_rfl))
theorem Th.cs_inj (x y : Th) (h : ∀ k, x.cs.getD k .hole = y.cs.getD k .hole) : x = y := by
  have h0 := h 0; have h1 := h 1; have h2 := h 2
  rcases x with ⟨x0, x1, x2⟩
  rcases y with ⟨y0, y1, y2⟩
  simp only [Th.cs, List.getD_cons_zero, List.getD_cons_succ, T.int.injEq, T.bool.injEq, true_and] at h0 h1 h2
  subst h0; subst h1; subst h2
  rfl
end Go.Mach.F
namespace Go.Mach
open Go
inductive Sh where
  | int (k : IntKind)
  | bool
  | arr (ss : List Sh)
def shFs (P : Program) (sub : TypeId → Option (List Sh)) : Nat → List Field → Option (List Sh)
  | _, [] => some []
  | o, f :: l => bif Nat.beq f.offset o then match sub f.type with
    | some a => bif Nat.beq a.length (P.cellsOf f.type) then match shFs P sub (o + a.length) l with
      | some r => some (a ++ r)
      | none => none
      else none
    | none => none
    else none
/-- The shapes of a type's cells. -/
def shOf (P : Program) : Nat → TypeId → Option (List Sh)
  | 0, _ => none
  | n + 1, t => match P.underlying t with
    | some .bool => some [.bool]
    | some (.int k) => some [.int k]
    | some (.slice e) => match shOf P n e with
      | some l => bif Nat.beq l.length (P.cellsOf e) && Nat.blt 0 (P.bytesOf e) && Nat.blt 0 l.length then some [.arr l] else none
      | none => none
    | some (.struct fs) => match shFs P (shOf P n) 0 fs.toList with
      | some l => bif Nat.beq l.length (P.cellsOf t) then some l else none
      | none => none
    | _ => none
/-- A tree has a shape. -/
def ShT : T → Sh → Prop
  | .int k n, s => s = .int k ∧ (Lit.int k n).wf = true
  | .bool _, s => s = .bool
  | .arr m n f, s => ∃ ss, s = .arr ss ∧ m = ss.length ∧ n ≤ F.ZM ∧ (∀ j, j < n → ∀ k s', ss[k]? = some s' → ShT (f j k) s') ∧ ∀ j k, (n ≤ j ∨ m ≤ k) → f j k = .hole
  | _, _ => False
def Cl (w : World) (N : Nat → Prop) (ts : List T) (ss : List Sh) (cs : List Value) : Prop :=
  ts.length = ss.length ∧ cs.length = ss.length ∧ ∀ (k : Nat) s, ss[k]? = some s → ∃ t v, ts[k]? = some t ∧ cs[k]? = some v ∧ ShT t s ∧ RelIm w N t v
theorem Cl.nil {w N} : Cl w N [] [] [] := ⟨rfl, rfl, fun k s h => by simp at h⟩
theorem Cl.one {w N t s v} (h : ShT t s) (h' : RelIm w N t v) : Cl w N [t] [s] [v] := ⟨rfl, rfl, fun k s' hk => by
  cases k with
  | zero => simp at hk; subst hk; exact ⟨t, v, rfl, rfl, h, h'⟩
  | succ k => simp at hk⟩
theorem Cl.append {w N ts ss cs ts' ss' cs'} (h : Cl w N ts ss cs) (h' : Cl w N ts' ss' cs') : Cl w N (ts ++ ts') (ss ++ ss') (cs ++ cs') := by
  refine ⟨by simp [h.1, h'.1], by simp [h.2.1, h'.2.1], fun k s hk => ?_⟩
  by_cases hl : k < ss.length
  · rw [List.getElem?_append_left hl] at hk
    rw [List.getElem?_append_left (by rw [h.1]; exact hl), List.getElem?_append_left (by rw [h.2.1]; exact hl)]
    exact h.2.2 k s hk
  · rw [List.getElem?_append_right (by omega)] at hk
    rw [List.getElem?_append_right (by rw [h.1]; omega), List.getElem?_append_right (by rw [h.2.1]; omega), h.1, h.2.1]
    exact h'.2.2 _ s hk
section
variable {H : Type} {enc : TypeId × Value → H} {P : Program} {w : World} {base : Nat} {spare : Nat → Bool} {held : Bool} {N : Nat → Prop}
/-- What is needed of a told value. -/
def Fit (P : Program) (N : Nat → Prop) (t : TypeId) (x : DataW H × List MemPlace) : Prop := (∀ p ∈ x.2, N p.block) ∧ ∀ m ∈ x.1.weights P t, m ≤ reachBytes
theorem weightsAll_mem {e : TypeId} : ∀ {ds : List (DataW H)} {j : Nat} {d : DataW H}, ds[j]? = some d → ∀ n ∈ d.weights P e, n ∈ DataW.weightsAll P e ds
  | d0 :: ds, 0, d, hd, n, hn => by
    simp only [List.getElem?_cons_zero, Option.some.injEq] at hd
    subst hd
    simp only [DataW.weightsAll, List.mem_append]
    exact .inl hn
  | d0 :: ds, j + 1, d, hd, n, hn => by
    simp only [List.getElem?_cons_succ] at hd
    simp only [DataW.weightsAll, List.mem_append]
    exact .inr (weightsAll_mem hd n hn)
  | [], _, _, hd, _, _ => by simp at hd
theorem reach_zm {n b : Nat} (h : n * b ≤ reachBytes) (hb : 0 < b) : n ≤ F.ZM := by
  have := reachBytes_lt
  have hz := F.zm
  have : n * 1 ≤ n * b := Nat.mul_le_mul_left n hb
  omega
theorem open_fs {sub : TypeId → Option (List Sh)} {tr : TypeId → List Value → Option (DataW H × List MemPlace)}
    (hsub : ∀ t ss cs x, sub t = some ss → tr t cs = some x → Fit P N t x → ∃ ts, Cl w N ts ss cs) (cs : List Value) :
    ∀ (fs : List Field) (o : Nat) (ss : List Sh), shFs P sub o fs = some ss → (∀ (i : Nat) (f : Field), fs[i]? = some f → ∃ x, tr f.type ((cs.drop f.offset).take (P.cellsOf f.type)) = some x ∧ Fit P N f.type x) →
      ∃ ts, Cl w N ts ss ((cs.drop o).take ss.length)
  | [], o, ss, h, _ => by
    simp only [shFs, Option.some.injEq] at h
    subst h
    exact ⟨[], by simpa using Cl.nil⟩
  | f :: fs, o, ss, h, hx => by
    unfold shFs at h
    cases ho : Nat.beq f.offset o with
    | false => simp [ho] at h
    | true =>
      simp only [ho, cond_true] at h
      cases ha : sub f.type with
      | none => simp [ha] at h
      | some a =>
        simp only [ha] at h
        cases hl : Nat.beq a.length (P.cellsOf f.type) with
        | false => simp [hl] at h
        | true =>
          simp only [hl, cond_true] at h
          cases hr : shFs P sub (o + a.length) fs with
          | none => simp [hr] at h
          | some r =>
            simp only [hr, Option.some.injEq] at h
            subst h
            obtain ⟨x, hx0, hf⟩ := hx 0 f rfl
            obtain ⟨ts, hts⟩ := hsub f.type a _ x ha hx0 hf
            obtain ⟨tr', htr⟩ := open_fs hsub cs fs (o + a.length) r hr fun i f' hi => hx (i + 1) f' (by simpa using hi)
            have e1 := Nat.eq_of_beq_eq_true ho
            have e2 := Nat.eq_of_beq_eq_true hl
            rw [← e2, e1] at hts
            refine ⟨ts ++ tr', ?_⟩
            have := hts.append htr
            rw [List.length_append, List.take_add]
            rw [List.drop_drop]
            exact this
theorem row_mem {a : Addr} {n : Nat} {N : Nat → Prop} (h : ∀ p ∈ MemPlace.row a n, N p.block) (hn : 0 < n) : N a.block :=
  h (.cell a.block (a.off + 0)) (List.mem_map.2 ⟨0, by simp; omega, rfl⟩)
theorem open_im : ∀ (n : Nat) (t : TypeId) (ss : List Sh), shOf P n t = some ss → ∀ (fuel : Nat) (cs : List Value) (x : DataW H × List MemPlace), DataW.trod enc P w base spare held fuel t cs = some x → Fit P N t x → ∃ ts, Cl w N ts ss cs
  | 0, _, _, h, _, _, _, _, _ => by simp [shOf] at h
  | n + 1, t, ss, h, fuel, cs, x, hx, hf => by
    unfold shOf at h
    split at h
    case h_1 hu =>
      simp only [Option.some.injEq] at h
      subst h
      obtain ⟨b, rfl, _⟩ := DataW.trod_bool hu hx
      exact ⟨[.bool b], .one rfl rfl⟩
    case h_2 k hu =>
      simp only [Option.some.injEq] at h
      subst h
      obtain ⟨m, rfl, _, hw⟩ := DataW.trod_int hu hx
      exact ⟨[.int k m], .one ⟨rfl, hw⟩ rfl⟩
    case h_3 e hu =>
      cases hl : shOf P n e with
      | none => simp [hl] at h
      | some l =>
        simp only [hl] at h
        cases hb : (Nat.beq l.length (P.cellsOf e) && Nat.blt 0 (P.bytesOf e) && Nat.blt 0 l.length) with
        | false => simp [hb] at h
        | true =>
          simp only [hb, cond_true, Option.some.injEq] at h
          subst h
          simp only [Bool.and_eq_true, Nat.blt_eq] at hb
          obtain ⟨⟨h1, h2⟩, h3⟩ := hb
          have h1 := Nat.eq_of_beq_eq_true h1
          rcases DataW.trod_slice hu hx with ⟨rfl, rfl⟩ | ⟨a, len, cap, elems, rest, m, rfl, rfl, rfl, hba, hlc, hcap, hel, hat, _, _⟩
          · exact ⟨[.arr l.length 0 fun _ _ => .hole], .one ⟨l, rfl, rfl, Nat.zero_le _, fun j hj => by omega, fun _ _ _ => rfl⟩ ⟨none, 0, rfl, Nat.le_refl _, fun h => by omega⟩⟩
          · obtain ⟨hp, hw⟩ := hf
            dsimp only at hp hw
            simp only [DataW.weights, hu, List.mem_cons, List.mem_append, List.length_map] at hw
            have hlen : len ≤ F.ZM := by
              have := reach_zm (hw _ (.inl rfl)) h2
              omega
            have key : ∀ i, ∃ ts, i < len → ∃ csi, w.cells? base (a.add (i * P.cellsOf e)) (P.cellsOf e) = some csi ∧ Cl w N ts l csi := fun i => by
              by_cases hi : i < len
              · have h4 := hat i hi
                have hxi := List.getElem?_eq_getElem (show i < elems.length by omega)
                rw [hxi] at h4
                obtain ⟨csi, h5, h6⟩ := Option.bind_eq_some_iff.1 h4
                have hfi : Fit P N e elems[i] := by
                  refine ⟨fun p hp' => hp p (List.mem_append_right _ (List.mem_flatMap.2 ⟨elems[i], List.mem_append_left _ (List.getElem_mem _), hp'⟩)), fun m' hm' => hw m' (.inr (.inl ?_))⟩
                  exact weightsAll_mem (j := i) (d := elems[i].1) (by rw [List.getElem?_map, hxi]; rfl) _ hm'
                obtain ⟨ts, hts⟩ := open_im n e l hl m csi _ h6 hfi
                exact ⟨ts, fun _ => ⟨csi, h5, hts⟩⟩
              · exact ⟨[], fun h => absurd h hi⟩
            obtain ⟨g, hg⟩ := Classical.axiomOfChoice key
            refine ⟨[.arr l.length len fun j k => if j < len then (g j).getD k .hole else .hole], .one ⟨l, rfl, rfl, hlen, fun j hj k s' hs => ?_, fun j k hjk => ?_⟩ ⟨some a, cap, rfl, hlc, fun h0 => ?_⟩⟩
            · simp only [hj, if_true]
              obtain ⟨csj, _, hcl⟩ := hg j hj
              obtain ⟨t', v', ht', _, hsh, _⟩ := hcl.2.2 k s' hs
              rw [List.getD_eq_getElem?_getD, ht']
              exact hsh
            · by_cases hj : j < len
              · simp only [hj, if_true]
                obtain ⟨csj, _, hcl⟩ := hg j hj
                rw [List.getD_eq_getElem?_getD, List.getElem?_eq_none (by rw [hcl.1]; omega)]
                rfl
              · simp only [hj, if_false]
            · have hpos : 0 < (elems.length + rest.length) * P.cellsOf e := Nat.mul_pos (by omega) (by omega)
              have hN : N a.block := row_mem (fun p hp' => hp p (List.mem_append_left _ hp')) hpos
              obtain ⟨cs0, hc0, hcl0⟩ := hg 0 h0
              obtain ⟨_, hlen0, hcell0⟩ := World.cells?_some hc0
              have g0 := hcell0 0 (by omega)
              have hsp : a.spot = none := by
                obtain ⟨v0, hv0⟩ : ∃ v0, cs0[0]? = some v0 := ⟨_, List.getElem?_eq_getElem (by omega)⟩
                rw [hv0] at g0
                have := World.cell?_spot g0
                simpa [Addr.add] using this
              obtain ⟨b, off, sp⟩ := a
              dsimp only at hsp
              subst hsp
              refine ⟨b, off, rfl, hN, fun j hj k hk => ?_⟩
              simp only [hj, if_true]
              obtain ⟨csj, hcj, hcl⟩ := hg j hj
              obtain ⟨_, hlenj, hcellj⟩ := World.cells?_some hcj
              obtain ⟨t', v', ht', hv', _, him⟩ := hcl.2.2 k l[k] (List.getElem?_eq_getElem hk)
              have hc := hcellj k (by omega)
              rw [WideShapes.add_plain, WideShapes.add_plain, hv'] at hc
              refine ⟨v', ?_, by rw [List.getD_eq_getElem?_getD, ht']; exact him⟩
              rw [show off + (j * l.length + k) = off + j * P.cellsOf e + k by rw [h1]; omega]
              exact hc
    case h_4 fs hu =>
      cases hl : shFs P (shOf P n) 0 fs.toList with
      | none => simp [hl] at h
      | some l =>
        simp only [hl] at h
        cases hb : Nat.beq l.length (P.cellsOf t) with
        | false => simp [hb] at h
        | true =>
          simp only [hb, cond_true, Option.some.injEq] at h
          subst h
          have hb := Nat.eq_of_beq_eq_true hb
          obtain ⟨xs, m, rfl, rfl, hlen, hxl, hget⟩ := DataW.trod_struct hu hx
          obtain ⟨hp, hw⟩ := hf
          dsimp only at hp hw
          simp only [DataW.weights, hu] at hw
          obtain ⟨ts, hts⟩ := open_fs (P := P) (w := w) (N := N) (sub := shOf P n) (tr := DataW.trod enc P w base spare held m) (fun t' ss' cs' x' h1 h2 h3 => open_im n t' ss' h1 m cs' x' h2 h3) cs fs.toList 0 l hl fun i f hi => by
            have hi' : fs[i]? = some f := by simpa using hi
            have hil : i < fs.size := (Array.getElem?_eq_some_iff.1 hi').1
            have hx' := hget i f hi'
            have hxi := List.getElem?_eq_getElem (show i < xs.length by omega)
            rw [hxi] at hx'
            refine ⟨_, hx', fun p hp' => hp p (List.mem_flatMap.2 ⟨xs[i], List.getElem_mem _, hp'⟩), fun m' hm' => hw m' ?_⟩
            exact DataW.weights_mem_each (j := i) (t := f.type) (d := xs[i].1) (by simp [hi']) (by simp [hxi]) _ hm'
          refine ⟨ts, ?_⟩
          rw [List.drop_zero, hb, ← hlen, List.take_length] at hts
          exact hts
    case h_5 => cases h
end
/-! ### arguments -/
def D0 : Nat → Prop := Dof fun _ => noG
theorem not_D0 (b : Nat) : ¬ D0 b := fun ⟨_, _, _, _, h, _⟩ => by cases h
def ShTs : List T → List Sh → Prop
  | [], [] => True
  | t :: ts, s :: ss => ShT t s ∧ ShTs ts ss
  | _, _ => False
theorem Cl.shts {w N} : ∀ {ts ss cs}, Cl w N ts ss cs → ShTs ts ss
  | [], [], _, _ => trivial
  | [], s :: ss, _, h => by have := h.1; simp at this
  | t :: ts, [], _, h => by have := h.1; simp at this
  | t :: ts, s :: ss, [], h => by have := h.2.1; simp at this
  | t :: ts, s :: ss, c :: cs, h => by
    refine ⟨?_, Cl.shts (w := w) (N := N) (ts := ts) (ss := ss) (cs := cs) ⟨by simpa using h.1, by simpa using h.2.1, fun k s' hk => ?_⟩⟩
    · obtain ⟨t', v', ht, _, hs, _⟩ := h.2.2 0 s rfl
      simp at ht
      subst ht
      exact hs
    · obtain ⟨t', v', ht, hv, hs, hr⟩ := h.2.2 (k + 1) s' (by simpa using hk)
      exact ⟨t', v', by simpa using ht, by simpa using hv, hs, hr⟩
section
variable {H : Type} {enc : TypeId × Value → H} {P : Program} {W : World}
theorem open_row {n : Nat} {t : TypeId} {ss : List Sh} {vs : Array Value} {d : DataW H} {ps : List MemPlace} (hs : shOf P n t = some ss) (h : DataW.Trod enc P W 0 (fun _ => true) true t (.agg vs) d ps) (hlt : ∀ x ∈ ps, x.block < W.heap.size) (hw : ∀ m ∈ d.weights P t, m ≤ reachBytes) :
    ∃ ts, ShTs ts ss ∧ ArgRow W D0 (F.aR ts).2 (.agg vs) := by
  obtain ⟨fuel, hf⟩ := h
  obtain ⟨ts, hts⟩ := open_im (N := fun b => b < W.heap.size) n t ss hs fuel _ (d, ps) hf ⟨hlt, hw⟩
  refine ⟨ts, hts.shts, fun G V => ⟨vs, rfl, ?_, fun k c hk => ?_⟩⟩
  · have h1 := hts.1
    have h2 := hts.2.1
    simp only [Value.cells, Array.length_toList] at h2
    simp only [F.aR, List.length_map]
    omega
  · simp only [F.aR, List.getElem?_map, Option.map_eq_some_iff] at hk
    obtain ⟨t', ht', rfl⟩ := hk
    have hk : k < ss.length := by rw [← hts.1]; exact (List.getElem?_eq_some_iff.1 ht').1
    obtain ⟨t2, v, h1, h2, _, him⟩ := hts.2.2 k ss[k] (List.getElem?_eq_getElem hk)
    rw [ht'] at h1
    cases h1
    simp only [Value.cells, Array.getElem?_toList] at h2
    refine ⟨v, h2, ?_⟩
    have e : (calleeEnv W D0).N = fun b => b < W.heap.size := by
      funext b
      simp only [Env.N, calleeEnv, not_D0, not_false_eq_true, and_true]
    show RelIm W (calleeEnv W D0).N t' v
    rw [e]
    exact him
theorem open_cell {n : Nat} {t : TypeId} {s : Sh} {v : Value} {d : DataW H} {ps : List MemPlace} (hv : v.cells = #[v]) (hs : shOf P n t = some [s]) (h : DataW.Trod enc P W 0 (fun _ => true) true t v d ps) (hlt : ∀ x ∈ ps, x.block < W.heap.size) (hw : ∀ m ∈ d.weights P t, m ≤ reachBytes) :
    ∃ t', ShT t' s ∧ ArgRow W D0 (F.aT t').2 v := by
  obtain ⟨fuel, hf⟩ := h
  rw [hv] at hf
  obtain ⟨ts, hts⟩ := open_im (N := fun b => b < W.heap.size) n t [s] hs fuel _ (d, ps) hf ⟨hlt, hw⟩
  obtain ⟨t', v', h1, h2, h3, him⟩ := hts.2.2 0 s rfl
  simp at h2
  subst h2
  refine ⟨t', h3, fun G V => ?_⟩
  have e : (calleeEnv W D0).N = fun b => b < W.heap.size := by
    funext b
    simp only [Env.N, calleeEnv, not_D0, not_false_eq_true, and_true]
  show RelIm W (calleeEnv W D0).N t' v
  rw [e]
  exact him
end
/-! ### the arguments together -/
theorem args_x {w : World} {args : List Arg} {vals : Array Value} (hs : vals.size = args.length) (h : ∀ (i : Nat) x, args[i]? = some x → x.1 = 0 ∧ ∃ u, vals[i]? = some u ∧ ArgRow w D0 x.2 u) : ArgsX w args vals fun _ => noG where
  size := hs
  inj := fun i p i' p' ad c ad' c' h => by cases h
  rng := fun i p ad c h => by cases h
  arg := fun i x hi => by
    obtain ⟨h0, u, hu, hr⟩ := h i x hi
    refine ⟨u, hu, ?_⟩
    unfold ArgOk
    rw [if_neg (by omega), if_neg (by omega)]
    exact hr
theorem GrewD.below {w w' : World} (h : GrewD w w' D0) : RowKit.Below w.heap.size w w' := ⟨h.os, h.tape, h.output, h.size, fun b hb => h.old b hb (not_D0 b)⟩
theorem res_bool {w w' : World} {γ : Nat → Gh} {args vals k b v δ} (h : ResX w w' γ args vals (F.erB k b).1 (F.erB k b).2 v δ) : v = .bool b := h.res (calleeEnv w D0) (fun _ => noG) fun _ => z0
/-! ### shapes of lists -/
namespace F
theorem sh_int {t : T} {k : IntKind} (h : ShT t (.int k)) : ∃ n, t = .int k n ∧ (Lit.int k n).wf = true := by
  cases t <;> simp only [ShT] at h
  · obtain ⟨h, hw⟩ := h
    cases h
    exact ⟨_, rfl, hw⟩
  · cases h
  · obtain ⟨_, h, _⟩ := h
    cases h
theorem sh_bool {t : T} (h : ShT t .bool) : ∃ b, t = .bool b := by
  cases t <;> simp only [ShT] at h
  · obtain ⟨h, hw⟩ := h
    cases h
  · exact ⟨_, rfl⟩
  · obtain ⟨_, h, _⟩ := h
    cases h
theorem sh_list {α : Type} {row : α → List T} {ss : List Sh} (ok : α → Prop) (hrow : ∀ x, (row x).length = ss.length) (hc : ∀ ts, ShTs ts ss → ∃ x, ts = row x ∧ ok x) {t : T} (h : ShT t (.arr ss)) :
    ∃ l : List α, t = eL ss.length row l ∧ l.length ≤ ZM ∧ ∀ x ∈ l, ok x := by
  cases t <;> simp only [ShT] at h
  · obtain ⟨h, hw⟩ := h
    cases h
  · cases h
  rename_i m n f
  obtain ⟨ss', h1, rfl, hn, hin, hout⟩ := h
  cases h1
  have hts : ∀ j, j < n → ShTs ((List.range ss.length).map (f j)) ss := by
    intro j hj
    have key : ∀ (l : List Sh) (o : Nat), (∀ k s', l[k]? = some s' → ShT (f j (o + k)) s') → ShTs ((List.range' o l.length).map (f j)) l := by
      intro l
      induction l with
      | nil => intro o _; trivial
      | cons s l ih =>
        intro o hl
        simp only [List.length_cons, List.range'_succ, List.map_cons]
        refine ⟨hl 0 s rfl, ih (o + 1) fun k s' hk => ?_⟩
        have := hl (k + 1) s' (by simpa using hk)
        rwa [show o + (k + 1) = o + 1 + k by omega] at this
    rw [List.range_eq_range']
    exact key ss 0 fun k s' hk => by rw [Nat.zero_add]; exact hin j hj k s' hk
  have hx : ∀ j, ∃ o : Option α, j < n → ∃ x, o = some x ∧ (List.range ss.length).map (f j) = row x ∧ ok x := fun j => by
    by_cases hj : j < n
    · obtain ⟨x, h1, h2⟩ := hc _ (hts j hj)
      exact ⟨some x, fun _ => ⟨x, rfl, h1, h2⟩⟩
    · exact ⟨none, fun h => absurd h hj⟩
  obtain ⟨g, hg⟩ := Classical.axiomOfChoice hx
  have hl : ∀ i, i ≤ n → ∃ l : List α, l.length = i ∧ ∀ j, j < i → l[j]? = g j := by
    intro i
    induction i with
    | zero => exact fun _ => ⟨[], rfl, fun j hj => by omega⟩
    | succ i ih =>
      intro hi
      obtain ⟨l, h1, h2⟩ := ih (by omega)
      obtain ⟨x, h3, _⟩ := hg i (by omega)
      refine ⟨l ++ [x], by simp [h1], fun j hj => ?_⟩
      by_cases hj' : j < i
      · rw [List.getElem?_append_left (by omega)]; exact h2 j hj'
      · have : j = i := by omega
        subst this
        rw [List.getElem?_append_right (by omega), h1, h3]
        simp
  obtain ⟨l, h1, h2⟩ := hl n (Nat.le_refl _)
  refine ⟨l, eL_ext h1.symm fun j k => ?_, by omega, fun x hx => ?_⟩
  · by_cases hj : j < n
    · obtain ⟨x, h3, h4, _⟩ := hg j hj
      rw [h2 j hj, h3]
      dsimp only
      by_cases hk : k < ss.length
      · rw [← h4, List.getD_eq_getElem?_getD, List.getElem?_map, List.getElem?_range hk]
        rfl
      · rw [hout j k (.inr (by omega)), List.getD_eq_getElem?_getD, List.getElem?_eq_none (by rw [hrow]; omega)]
        rfl
    · rw [List.getElem?_eq_none (by omega)]
      exact hout j k (.inl (by omega))
  · obtain ⟨j, hj, rfl⟩ := List.getElem_of_mem hx
    obtain ⟨y, h3, _, h5⟩ := hg j (by omega)
    have := h2 j (by omega)
    rw [List.getElem?_eq_getElem hj, h3] at this
    cases this
    exact h5
theorem shs_nil {ts : List T} (h : ShTs ts []) : ts = [] := by cases ts with | nil => rfl | cons _ _ => exact h.elim
theorem shs_cons {ts : List T} {s ss} (h : ShTs ts (s :: ss)) : ∃ t ts', ts = t :: ts' ∧ ShT t s ∧ ShTs ts' ss := by cases ts with | nil => exact h.elim | cons t ts => exact ⟨t, ts, rfl, h⟩
theorem sh_LI {t : T} (h : ShT t (.arr [.int .i64])) : ∃ l : List Int, t = eI l ∧ l.length ≤ ZM := by
  obtain ⟨l, h1, h2, _⟩ := sh_list (row := rowI) (fun _ => True) (fun _ => rfl) (fun ts hts => by
    obtain ⟨t, ts', rfl, h1, h2⟩ := shs_cons hts
    obtain rfl := shs_nil h2
    obtain ⟨n, rfl, _⟩ := sh_int h1
    exact ⟨n, rfl, trivial⟩) h
  exact ⟨l, h1, h2⟩
theorem sh_LB {t : T} (h : ShT t (.arr [.int .u8])) : ∃ l : List UInt8, t = eB l ∧ l.length ≤ ZM := by
  obtain ⟨l, h1, h2, _⟩ := sh_list (row := rowB) (fun _ => True) (fun _ => rfl) (fun ts hts => by
    obtain ⟨t, ts', rfl, h1, h2⟩ := shs_cons hts
    obtain rfl := shs_nil h2
    obtain ⟨n, rfl, hw⟩ := sh_int h1
    have hn : IntKind.u8.min ≤ n ∧ n ≤ IntKind.u8.max := by simpa [Lit.wf] using hw
    rw [show IntKind.u8.min = 0 from rfl, show IntKind.u8.max = 255 from rfl] at hn
    refine ⟨UInt8.ofNat n.toNat, ?_, trivial⟩
    simp only [rowB, UInt8.toNat_ofNat']
    congr 2
    omega) h
  exact ⟨l, h1, h2⟩
end F
end Go.Mach
namespace Go.Mach.F
open Go Go.Mach Go.Proofs.Try
--=set_option maxRecDepth 100000
theorem aR_inj {cs cs' : List T} (h : aR cs = aR cs') : cs = cs' := by
  have e := congrArg (fun a : Arg => a.2.2) h
  exact (List.map_inj_right (fun x y h => by cases h; rfl)).1 e
theorem aT_inj {t t' : T} (h : aT t = aT t') : t = t' := by cases h; rfl
theorem aI_inj {n m : Int} (h : aI n = aI m) : n = m := by cases h; rfl
theorem aB_inj {n m : Bool} (h : aB n = aB m) : n = m := by cases h; rfl
theorem cond_tf (b : Bool) : (bif b then true else false) = b := by cases b <;> rfl
theorem cond_bf (a b : Bool) : (bif a then b else false) = (a && b) := by cases a <;> rfl
theorem dec_and {p q : Prop} [Decidable p] [Decidable q] : (decide p && decide q) = decide (p ∧ q) := (Bool.decide_and p q).symm
theorem int_eq (a b : Int) : (a == b) = decide (a = b) := by by_cases h : a = b <;> simp [h]
theorem cut_all {α : Type} (row : α → List T) (l : List α) : cutT 0 l.length (atL row l) = atL row l := by
  funext j k
  unfold cutT
  rw [blt_d, Bool.cond_decide]
  split
  · rw [Nat.zero_add]
  · rename_i h
    unfold atL
    rw [List.getElem?_eq_none (by omega)]
theorem bool_self (b : Bool) : (b == b) = true := by cases b <;> rfl
theorem bool_nself (b : Bool) : (b != b) = false := by cases b <;> rfl
theorem int_self (a : Int) : (a == a) = true := by simp
theorem int_nself (a : Int) : (a != a) = false := by simp
def aF (f : Nat) (cs : List T) : Arg := (0, (false, [.fn f [.pim cs.length (pimF cs)]]))
theorem aF_inj {f : Nat} {cs cs' : List T} (hl : cs.length = cs'.length) (h : aF f cs = aF f cs') : cs = cs' := by
  simp only [aF, Prod.mk.injEq, List.cons.injEq, C.fn.injEq, Pt.pim.injEq, true_and, and_true] at h
  apply List.ext_getElem hl
  intro i hi hi'
  have := congrFun h.2 i
  simpa [pimF, List.getD_eq_getElem?_getD, List.getElem?_eq_getElem hi, List.getElem?_eq_getElem hi'] using this
theorem Hd.cs_ext {x y : Hd} (h : x.cs = y.cs) : x = y := Hd.cs_inj x y fun k => by rw [h]
theorem Rf.cs_inj (x y : Rf) (h : ∀ k, x.cs.getD k .hole = y.cs.getD k .hole) : x = y := by
  have h0 := h 0; have h1 := h 1; have h2 := h 2; have h3 := h 3
  rcases x with ⟨⟨x0, x1⟩, x2, x3⟩
  rcases y with ⟨⟨y0, y1⟩, y2, y3⟩
  simp only [Rf.cs, List.getD_cons_zero, List.getD_cons_succ, T.int.injEq, T.bool.injEq, true_and] at h0 h1 h2 h3
  subst h0; subst h1; subst h2; subst h3
  rfl
theorem Rf.cs_ext {x y : Rf} (h : x.cs = y.cs) : x = y := Rf.cs_inj x y fun k => by rw [h]
theorem Cf.cs_inj (x y : Cf) (h : ∀ k, x.cs.getD k .hole = y.cs.getD k .hole) : x = y := by
  have h0 := h 0; have h1 := h 1; have h2 := h 2; have h3 := h 3; have h4 := h 4; have h5 := h 5
  rcases x with ⟨x0, x1, x2, x3, x4, x5⟩
  rcases y with ⟨y0, y1, y2, y3, y4, y5⟩
  simp only [Cf.cs, List.getD_cons_zero, List.getD_cons_succ, T.int.injEq, T.bool.injEq, true_and] at h0 h1 h2 h3 h4 h5
  subst h0; subst h1; subst h2; subst h3; subst h4; subst h5
  rfl
theorem Cf.cs_ext {x y : Cf} (h : x.cs = y.cs) : x = y := Cf.cs_inj x y fun k => by rw [h]
def i_toCf : Nat := 37
noncomputable abbrev F_toCf : Func := f37
def kp_toCf : List (Nat × List Nat) := [(0, [4, 5, 8, 9]), (1, [4, 5, 8, 9, 12, 13]), (2, [4, 5, 8, 9, 12, 13]), (3, [4, 5, 8, 9, 12, 13]), (4, [4, 5, 8, 9, 12, 13]), (5, [4, 5, 8, 9, 12, 13]), (6, [4, 5, 8, 9, 12, 13]), (7, [8, 9, 12, 13]), (8, [8, 9])]
noncomputable def e_toCf : Ent := inl [] prog (tabS []) kp_toCf 0 F_toCf
theorem s_toCf : EntOk prog i_toCf e_toCf := inl_ok tabS_nil mixed (c := bodyOf F_toCf) func37 (by kernel_rfl) (name_ok (by kernel_rfl))
def i_eqCf : Nat := 44
noncomputable abbrev F_eqCf : Func := f44
def kp_eqCf : List (Nat × List Nat) := [(0, [8, 9, 12, 13]), (1, [8, 9, 12, 13, 36]), (2, [16]), (3, [8, 9, 12, 13, 56]), (4, [16]), (5, [8, 9, 12, 13, 76]), (6, [16]), (7, [8, 9, 12, 13, 96]), (8, [16]), (9, [8, 9, 12, 13, 116]), (10, [16]), (11, [136]), (12, [16]), (13, [16])]
noncomputable def e_eqCf : Ent := inl [] prog (tabS []) kp_eqCf 0 F_eqCf
theorem s_eqCf : EntOk prog i_eqCf e_eqCf := inl_ok tabS_nil mixed (c := bodyOf F_eqCf) func44 (by kernel_rfl) (name_ok (by kernel_rfl))
abbrev shHd : List Sh := [.int .i64, .int .i64]
def z_Hd (x : Hd) : Prop := True
theorem sh_Hd {ts : List T} (hh : ShTs ts shHd) : ∃ x : Hd, ts = x.cs ∧ z_Hd x := by
  obtain ⟨t0, ts, rfl, h0, hh⟩ := shs_cons hh
  obtain ⟨t1, ts, rfl, h1, hh⟩ := shs_cons hh
  obtain rfl := shs_nil hh
  obtain ⟨x0, rfl, _⟩ := sh_int h0
  obtain ⟨x1, rfl, _⟩ := sh_int h1
  exact ⟨⟨x0, x1⟩, rfl, trivial⟩
theorem sh_HdS {t : T} (h : ShT t (.arr shHd)) : ∃ l : List Hd, t = eL 2 Hd.cs l ∧ l.length ≤ ZM ∧ ∀ x ∈ l, z_Hd x := sh_list z_Hd (fun _ => rfl) (fun _ hts => sh_Hd hts) h
end Go.Mach.F
namespace Go.Mach.F
open Go Go.Mach Go.Proofs.Try
--=set_option maxRecDepth 100000
theorem Rm.cs_inj (x y : Rm) (h : ∀ k, x.cs.getD k .hole = y.cs.getD k .hole) : x = y := by
  have h0 := h 0; have h1 := h 1; have h2 := h 2; have h3 := h 3; have h4 := h 4; have h5 := h 5; have h6 := h 6; have h7 := h 7; have h8 := h 8; have h9 := h 9; have h10 := h 10
  rcases x with ⟨⟨x0, x1⟩, ⟨x2, x3⟩, x4, x5, x6, x7, x8, x9, x10⟩
  rcases y with ⟨⟨y0, y1⟩, ⟨y2, y3⟩, y4, y5, y6, y7, y8, y9, y10⟩
  simp only [Rm.cs, List.getD_cons_zero, List.getD_cons_succ, T.int.injEq, T.bool.injEq, true_and] at h0 h1 h2 h3 h4 h5 h6 h7 h8 h9 h10
  replace h4 := eL_inj Hd.cs_inj h4
  replace h9 := eL_inj Sf.cs_inj h9
  replace h10 := eI_inj h10
  subst h0; subst h1; subst h2; subst h3; subst h4; subst h5; subst h6; subst h7; subst h8; subst h9; subst h10
  rfl
def i_toRm : Nat := 104
noncomputable abbrev F_toRm : Func := f104
def kp_toRm : List (Nat × List Nat) := [(0, [4, 5, 8, 9, 12, 13, 144]), (1, [4, 5, 8, 9, 12, 13, 144]), (2, [4, 5, 8, 9, 12, 13, 144]), (3, [4, 5, 8, 9, 12, 13, 144]), (4, [4, 5, 8, 9, 12, 13, 144]), (5, [4, 5, 8, 9, 12, 13, 144]), (6, [4, 5, 8, 9, 12, 13, 144]), (7, [4, 5, 8, 9, 12, 13, 144]), (8, [4, 5, 8, 9, 12, 13, 144]), (9, [4, 5, 8, 9, 12, 13, 144]), (10, [8, 9, 12, 13, 144]), (11, [8, 9, 12, 13, 144])]
noncomputable def e_toRm : Ent := inl [] prog (tabS [(i_toHd, e_toHd), (i_toHdS, e_toHdS), (i_toSfS, e_toSfS), (i_toLI, e_toLI)]) kp_toRm 0 F_toRm
theorem s_toRm : EntOk prog i_toRm e_toRm := inl_ok (tabS_cons s_toHd (tabS_cons s_toHdS (tabS_cons s_toSfS (tabS_cons s_toLI tabS_nil)))) mixed (c := bodyOf F_toRm) func104 (by kernel_rfl) (name_ok (by kernel_rfl))
def i_eqRm : Nat := 114
noncomputable abbrev F_eqRm : Func := f114
def kp_eqRm : List (Nat × List Nat) := [(0, [8, 9, 12, 13]), (1, [8, 9, 12, 13, 40]), (2, [16]), (3, [8, 9, 12, 13, 64]), (4, [16]), (5, [8, 9, 12, 13, 88]), (6, [16]), (7, [8, 9, 12, 13, 108]), (8, [16]), (9, [8, 9, 12, 13, 128]), (10, [16]), (11, [8, 9, 12, 13, 148]), (12, [16]), (13, [8, 9, 12, 13, 168]), (14, [16]), (15, [8, 9, 12, 13, 192]), (16, [16]), (17, [216]), (18, [16]), (19, [16])]
noncomputable def e_eqRm : Ent := inl [] prog (tabS [(i_eqHd, e_eqHd), (i_eqHdS, e_eqHdS), (i_eqSfS, e_eqSfS), (i_eqLI, e_eqLI)]) kp_eqRm 0 F_eqRm
theorem s_eqRm : EntOk prog i_eqRm e_eqRm := inl_ok (tabS_cons s_eqHd (tabS_cons s_eqHdS (tabS_cons s_eqSfS (tabS_cons s_eqLI tabS_nil)))) mixed (c := bodyOf F_eqRm) func114 (by kernel_rfl) (name_ok (by kernel_rfl))
def i_szRm : Nat := 100
noncomputable abbrev F_szRm : Func := f100
def kp_szRm : List (Nat × List Nat) := [(0, [4, 8, 9]), (1, [4, 8, 9]), (2, [4, 8, 9, 40]), (3, [16]), (4, [4, 8, 9]), (5, [4, 8, 9, 64]), (6, [16]), (7, [4]), (8, [4, 88]), (9, [16]), (10, [16])]
noncomputable def e_szRm : Ent := inl [] prog (tabS [(i_szHdS, e_szHdS), (i_szSfS, e_szSfS), (i_szLI, e_szLI)]) kp_szRm 0 F_szRm
theorem s_szRm : EntOk prog i_szRm e_szRm := inl_ok (tabS_cons s_szHdS (tabS_cons s_szSfS (tabS_cons s_szLI tabS_nil))) mixed (c := bodyOf F_szRm) func100 (by kernel_rfl) (name_ok (by kernel_rfl))
def ok_RmS (l : List Rm) : Prop := l.length ≤ LM ∧ ∀ x ∈ l, ok_HdS x.kids ∧ ok_SfS x.things ∧ ok_LI x.tags
def ea_RmS (l : List Rm) : List Arg := [aT (eL 11 Rm.cs l)]
noncomputable def e_toRmS : Ent := ent [] ok_RmS ea_RmS (fun l => erT 1 (eL 11 Rm.cs l)) fun l => l
def okq_RmS (l : List Rm) : Prop := l.length ≤ BM ∧ ∀ x ∈ l, okq_HdS x.kids ∧ okq_SfS x.things ∧ okq_LI x.tags
def ok2_RmS (x : List Rm × List Rm) : Prop := okq_RmS x.1
def ea2_RmS (x : List Rm × List Rm) : List Arg := [aT (eL 11 Rm.cs x.1), aT (eL 11 Rm.cs x.2)]
def f_eqRmS (x : List Rm × List Rm) : Bool := decide (x.1 = x.2)
noncomputable def e_eqRmS : Ent := ent [] ok2_RmS ea2_RmS (erB 2) f_eqRmS
theorem ea_RmS_inj (x y : List Rm) (h : ea_RmS x = ea_RmS y) : x = y := by
  simp only [ea_RmS, aT, List.cons.injEq, Prod.mk.injEq, true_and, and_true, C.tr.injEq] at h
  exact eL_inj Rm.cs_inj h
theorem ea2_RmS_inj (x y : List Rm × List Rm) (h : ea2_RmS x = ea2_RmS y) : x = y := by
  simp only [ea2_RmS, aT, List.cons.injEq, Prod.mk.injEq, true_and, and_true, C.tr.injEq] at h
  exact Prod.ext (eL_inj Rm.cs_inj h.1) (eL_inj Rm.cs_inj h.2)
def i_toRmS : Nat := 62
noncomputable abbrev F_toRmS : Func := f62
def kp_toRmS : List (Nat × List Nat) := [(0, [0]), (1, [0, 12]), (2, [0, 12, 16]), (3, [0, 12, 16, 44]), (4, [0, 12, 16]), (5, [0, 12, 16]), (6, [8])]
def ts_toRmS : List Nat := [0]
def st_toRmS_1 (l : List Rm) (nx12 : Nat) (fx12 : Nat → Nat → T) (x16 : Int) : St := [(0, ⟨z0, [(false, [.tr false (eL 11 Rm.cs l)])]⟩), (12, ⟨z0, [(false, [.tr true (.arr (11) (nx12) (fx12))])]⟩), (16, ⟨z0, [(false, [.tr true (T.int IntKind.i64 x16)])]⟩)]
def ex_toRmS_1_1 (l : List Rm) (nx12 : Nat) (fx12 : Nat → Nat → T) (x16 : Int) : St := [(0, ⟨z0, [(false, [.tr false (eL 11 Rm.cs l)])]⟩), (12, ⟨z0, [(false, [.tr true (.arr (11) (nx12) (fx12))])]⟩), (16, ⟨z0, [(false, [.tr true (T.int IntKind.i64 x16)])]⟩), (44, ⟨z0, []⟩)]
theorem round_toRmS_1 (l : List Rm) (nx12 : Nat) (fx12 : Nat → Nat → T) (x16 : Int) (n : Nat) (K : Ex → St → Res) : roundAt prog (tabS [(i_toRm, e_toRm)]) kp_toRmS F_toRmS [1, 1, 0, 1, 0] n (st_toRmS_1 l nx12 fx12 x16) K = (
 bif decide (x16 < (↑l.length : Int)) then
  gd (decide (0 ≤ x16) && (x16.toNat.blt l.length && true)) <|
  gd (T.isI IntKind.i64 (atL Rm.cs l x16.toNat 0) && T.isI IntKind.i64 (atL Rm.cs l x16.toNat 1) &&
                  T.isI IntKind.i64 (atL Rm.cs l x16.toNat 2) &&
                T.isI IntKind.i64 (atL Rm.cs l x16.toNat 3) &&
              ((atL Rm.cs l x16.toNat 4).isArr && (atL Rm.cs l x16.toNat 4).wd.beq 2) &&
            T.isI IntKind.i64 (atL Rm.cs l x16.toNat 5) &&
          T.isI IntKind.i64 (atL Rm.cs l x16.toNat 6) &&
        (atL Rm.cs l x16.toNat 7).isB &&
      T.isI IntKind.i64 (atL Rm.cs l x16.toNat 8) &&
    ((atL Rm.cs l x16.toNat 9).isArr && (atL Rm.cs l x16.toNat 9).wd.beq 1) &&
  ((atL Rm.cs l x16.toNat 10).isArr && (atL Rm.cs l x16.toNat 10).wd.beq 1)) <|
  gd (dom ok_HdS ea_HdS [(0, false, [C.tr false (T.arr 2 (atL Rm.cs l x16.toNat 4).ln (atL Rm.cs l x16.toNat 4).fn)])]) <|
  gd ((inv ok_HdS ea_HdS
          [(0, false, [C.tr false (T.arr 2 (atL Rm.cs l x16.toNat 4).ln (atL Rm.cs l x16.toNat 4).fn)])]).length.ble
    (inv ok_HdS ea_HdS
        [(0, false, [C.tr false (T.arr 2 (atL Rm.cs l x16.toNat 4).ln (atL Rm.cs l x16.toNat 4).fn)])]).length &&
  true) <|
  gd (dom ok_SfS ea_SfS [(0, false, [C.tr false (T.arr 1 (atL Rm.cs l x16.toNat 9).ln (atL Rm.cs l x16.toNat 9).fn)])]) <|
  gd ((inv ok_SfS ea_SfS
          [(0, false, [C.tr false (T.arr 1 (atL Rm.cs l x16.toNat 9).ln (atL Rm.cs l x16.toNat 9).fn)])]).length.ble
    (inv ok_SfS ea_SfS
        [(0, false, [C.tr false (T.arr 1 (atL Rm.cs l x16.toNat 9).ln (atL Rm.cs l x16.toNat 9).fn)])]).length &&
  true) <|
  gd (dom ok_LI ea_LI [(0, false, [C.tr false (T.arr 1 (atL Rm.cs l x16.toNat 10).ln (atL Rm.cs l x16.toNat 10).fn)])]) <|
  gd ((inv ok_LI ea_LI
          [(0, false, [C.tr false (T.arr 1 (atL Rm.cs l x16.toNat 10).ln (atL Rm.cs l x16.toNat 10).fn)])]).length.ble
    (inv ok_LI ea_LI
        [(0, false, [C.tr false (T.arr 1 (atL Rm.cs l x16.toNat 10).ln (atL Rm.cs l x16.toNat 10).fn)])]).length &&
  true) <|
  gd ((inv ok_HdS ea_HdS
          [(0, false, [C.tr false (T.arr 2 (atL Rm.cs l x16.toNat 4).ln (atL Rm.cs l x16.toNat 4).fn)])]).length.ble
    (inv ok_HdS ea_HdS
        [(0, false, [C.tr false (T.arr 2 (atL Rm.cs l x16.toNat 4).ln (atL Rm.cs l x16.toNat 4).fn)])]).length &&
  true) <|
  gd ((inv ok_SfS ea_SfS
          [(0, false, [C.tr false (T.arr 1 (atL Rm.cs l x16.toNat 9).ln (atL Rm.cs l x16.toNat 9).fn)])]).length.ble
    (inv ok_SfS ea_SfS
        [(0, false, [C.tr false (T.arr 1 (atL Rm.cs l x16.toNat 9).ln (atL Rm.cs l x16.toNat 9).fn)])]).length &&
  true) <|
  gd ((inv ok_LI ea_LI
          [(0, false, [C.tr false (T.arr 1 (atL Rm.cs l x16.toNat 10).ln (atL Rm.cs l x16.toNat 10).fn)])]).length.ble
    (inv ok_LI ea_LI
        [(0, false, [C.tr false (T.arr 1 (atL Rm.cs l x16.toNat 10).ln (atL Rm.cs l x16.toNat 10).fn)])]).length &&
  true) <|
  gd ((inv ok_HdS ea_HdS
          [(0, false, [C.tr false (T.arr 2 (atL Rm.cs l x16.toNat 4).ln (atL Rm.cs l x16.toNat 4).fn)])]).length.ble
    (inv ok_HdS ea_HdS
        [(0, false, [C.tr false (T.arr 2 (atL Rm.cs l x16.toNat 4).ln (atL Rm.cs l x16.toNat 4).fn)])]).length &&
  true) <|
  gd ((inv ok_SfS ea_SfS
          [(0, false, [C.tr false (T.arr 1 (atL Rm.cs l x16.toNat 9).ln (atL Rm.cs l x16.toNat 9).fn)])]).length.ble
    (inv ok_SfS ea_SfS
        [(0, false, [C.tr false (T.arr 1 (atL Rm.cs l x16.toNat 9).ln (atL Rm.cs l x16.toNat 9).fn)])]).length &&
  true) <|
  gd ((inv ok_LI ea_LI
          [(0, false, [C.tr false (T.arr 1 (atL Rm.cs l x16.toNat 10).ln (atL Rm.cs l x16.toNat 10).fn)])]).length.ble
    (inv ok_LI ea_LI
        [(0, false, [C.tr false (T.arr 1 (atL Rm.cs l x16.toNat 10).ln (atL Rm.cs l x16.toNat 10).fn)])]).length &&
  true) <|
  gd (decide (0 ≤ x16) && (x16.toNat.blt nx12 && true)) <|
  gd ((inv ok_HdS ea_HdS
          [(0, false, [C.tr false (T.arr 2 (atL Rm.cs l x16.toNat 4).ln (atL Rm.cs l x16.toNat 4).fn)])]).length.ble
    (inv ok_HdS ea_HdS
        [(0, false, [C.tr false (T.arr 2 (atL Rm.cs l x16.toNat 4).ln (atL Rm.cs l x16.toNat 4).fn)])]).length &&
  true) <|
  gd ((inv ok_SfS ea_SfS
          [(0, false, [C.tr false (T.arr 1 (atL Rm.cs l x16.toNat 9).ln (atL Rm.cs l x16.toNat 9).fn)])]).length.ble
    (inv ok_SfS ea_SfS
        [(0, false, [C.tr false (T.arr 1 (atL Rm.cs l x16.toNat 9).ln (atL Rm.cs l x16.toNat 9).fn)])]).length &&
  true) <|
  gd ((inv ok_LI ea_LI
          [(0, false, [C.tr false (T.arr 1 (atL Rm.cs l x16.toNat 10).ln (atL Rm.cs l x16.toNat 10).fn)])]).length.ble
    (inv ok_LI ea_LI
        [(0, false, [C.tr false (T.arr 1 (atL Rm.cs l x16.toNat 10).ln (atL Rm.cs l x16.toNat 10).fn)])]).length &&
  true) <|
  gd ((0 + x16.toNat).blt nx12 && true && true) <|
  gd ((0 + x16.toNat).blt nx12 && true && true) <|
  gd ((0 + x16.toNat).blt nx12 && true && true) <|
  gd ((0 + x16.toNat).blt nx12 && true && true) <|
  gd ((0 + x16.toNat).blt nx12 && true && true) <|
  gd ((0 + x16.toNat).blt nx12 && true && true) <|
  gd ((0 + x16.toNat).blt nx12 && true && true) <|
  gd ((0 + x16.toNat).blt nx12 && true && true) <|
  gd ((0 + x16.toNat).blt nx12 && true && true) <|
  gd ((0 + x16.toNat).blt nx12 && true && true) <|
  gd ((0 + x16.toNat).blt nx12 && true && true) <|
  K .normal (st_toRmS_1 l (nx12) (setF (0 + x16.toNat) (1 + 1 + 1 + 1 + 1 + 1 + 1 + 1 + 1 + 1)
  (T.arr 1
    (inv ok_LI ea_LI
        [(0, false, [C.tr false (T.arr 1 (atL Rm.cs l x16.toNat 10).ln (atL Rm.cs l x16.toNat 10).fn)])]).length
    (atL rowI
      (inv ok_LI ea_LI
        [(0, false, [C.tr false (T.arr 1 (atL Rm.cs l x16.toNat 10).ln (atL Rm.cs l x16.toNat 10).fn)])])))
  (setF (0 + x16.toNat) (1 + 1 + 1 + 1 + 1 + 1 + 1 + 1 + 1)
    (T.arr 1
      (inv ok_SfS ea_SfS
          [(0, false, [C.tr false (T.arr 1 (atL Rm.cs l x16.toNat 9).ln (atL Rm.cs l x16.toNat 9).fn)])]).length
      (eL 1 Sf.cs
          (inv ok_SfS ea_SfS
            [(0, false, [C.tr false (T.arr 1 (atL Rm.cs l x16.toNat 9).ln (atL Rm.cs l x16.toNat 9).fn)])])).fn)
    (setF (0 + x16.toNat) (1 + 1 + 1 + 1 + 1 + 1 + 1 + 1) (T.int IntKind.i64 (atL Rm.cs l x16.toNat 8).toI)
      (setF (0 + x16.toNat) (1 + 1 + 1 + 1 + 1 + 1 + 1) (T.bool (atL Rm.cs l x16.toNat 7).toB)
        (setF (0 + x16.toNat) (1 + 1 + 1 + 1 + 1 + 1) (T.int IntKind.i64 (atL Rm.cs l x16.toNat 6).toI)
          (setF (0 + x16.toNat) (1 + 1 + 1 + 1 + 1) (T.int IntKind.i64 (atL Rm.cs l x16.toNat 5).toI)
            (setF (0 + x16.toNat) (1 + 1 + 1 + 1)
              (T.arr 2
                (inv ok_HdS ea_HdS
                    [(0, false,
                        [C.tr false (T.arr 2 (atL Rm.cs l x16.toNat 4).ln (atL Rm.cs l x16.toNat 4).fn)])]).length
                (eL 2 Hd.cs
                    (inv ok_HdS ea_HdS
                      [(0, false,
                          [C.tr false (T.arr 2 (atL Rm.cs l x16.toNat 4).ln (atL Rm.cs l x16.toNat 4).fn)])])).fn)
              (setF (0 + x16.toNat) (1 + 1 + 1) (T.int IntKind.i64 (atL Rm.cs l x16.toNat 3).toI)
                (setF (0 + x16.toNat) (1 + 1) (T.int IntKind.i64 (atL Rm.cs l x16.toNat 2).toI)
                  (setF (0 + x16.toNat) 1 (T.int IntKind.i64 (atL Rm.cs l x16.toNat 1).toI)
                    (setF (0 + x16.toNat) 0 (T.int IntKind.i64 (atL Rm.cs l x16.toNat 0).toI) fx12))))))))))) (IntKind.i64.wrap (x16 + 1)))
 else
 K (.exit 0) (ex_toRmS_1_1 l nx12 fx12 x16)) := by kernel_rfl
theorem post_toRmS_1_1 (l : List Rm) (nx12 : Nat) (fx12 : Nat → Nat → T) (x16 : Int) (n : Nat) : contAt prog (tabS [(i_toRm, e_toRm)]) kp_toRmS F_toRmS ts_toRmS [1, 1, 0, 1, 0] [] n (.exit 0) (ex_toRmS_1_1 l nx12 fx12 x16) = (
 gd (nx12.ble nx12 && true) <|
 gd (nx12.ble nx12 && true) <|
 some ([(false, [.tr true (.arr (11) (nx12) (fx12))])], [(false, [])])) := by kernel_rfl
theorem pre_toRmS (l : List Rm) (n : Nat) : body prog (tabS [(i_toRm, e_toRm)]) kp_toRmS n F_toRmS [aT (eL 11 Rm.cs l)] = (
 gd (decide (0 ≤ (↑l.length : Int)) &&
  (decide ((↑l.length : Int) ≤ (↑l.length : Int)) &&
    (((↑l.length : Int).toNat * 136).ble 70368744177664 && (↑l.length : Int).toNat.ble 70368744177664))) <|
 gd ((↑l.length : Int).toNat.ble (↑l.length : Int).toNat && true) <|
 loopAt prog (tabS [(i_toRm, e_toRm)]) kp_toRmS F_toRmS [1, 1, 0, 1, 0] n n (st_toRmS_1 l ((↑l.length : Int).toNat) (cutT 0 (↑l.length : Int).toNat (zeroT prog 92)) (0)) (contAt prog (tabS [(i_toRm, e_toRm)]) kp_toRmS F_toRmS ts_toRmS [1, 1, 0, 1, 0] [] n)) := by kernel_rfl
theorem body_toRmS (l : List Rm) (hl : ok_RmS l) : body prog (tabS [(i_toRm, e_toRm)]) kp_toRmS (l.length + 1) F_toRmS (ea_RmS l) = some (erT 1 (eL 11 Rm.cs l)) := by
  have hl' : l.length ≤ LM := hl.1
  have hlm := lm
  unfold ea_RmS
  rw [pre_toRmS]
  simp only [ge0_d, Int.toNat_natCast, ble_d, Int.le_refl, Nat.le_refl, decide_true, Bool.and_true, Bool.true_and, gd_true]
  rw [decide_eq_true (show l.length * 136 ≤ 70368744177664 by omega), decide_eq_true (show l.length ≤ 70368744177664 by omega)]
  simp only [Bool.and_true, gd_true]
  rw [zero_fill (m := 11) (row := Rm.cs) (d := default) l.length (fun j k => by rcases k with _ | _ | _ | _ | _ | _ | _ | _ | _ | _ | _ | _ <;> kernel_rfl), ← fill_zero l default]
  have hst : st_toRmS_1 l l.length (atL Rm.cs (fill l default 0)) 0 = (fun i : Nat => st_toRmS_1 l l.length (atL Rm.cs (fill l default i)) (i : Nat)) 0 := rfl
  rw [hst, forLoop l.length (fun i : Nat => st_toRmS_1 l l.length (atL Rm.cs (fill l default i)) (i : Nat)) (ex_toRmS_1_1 l l.length (atL Rm.cs l) l.length) 0 (fun i K hi => ?_) (fun K => ?_) _ (Nat.le_refl _)]
  · rw [post_toRmS_1_1]
    simp only [ble_d, Nat.le_refl, decide_true, gd_true, Bool.and_true]
    rfl
  · have hx := List.getElem?_eq_getElem hi
    have h0 := (hl.2 _ (List.getElem_mem hi)).1
    have h1 := (hl.2 _ (List.getElem_mem hi)).2.1
    have h2 := (hl.2 _ (List.getElem_mem hi)).2.2
    have hd : (fill l default i)[i]? = some default := by
      unfold fill
      rw [List.getElem?_append_right (by simp; omega), List.getElem?_replicate, if_pos (by simp; omega)]
    rw [round_toRmS_1]
    simp only [lt_d, ge0_d, Int.toNat_natCast, blt_d, ble_self, beq_self, decide_true, cond_true, Bool.and_self, Bool.and_true, Bool.true_and, gd_true, Nat.zero_add, List.getD_cons_zero, List.getD_cons_succ, isI_int, toI_int, isB_bool, toB_bool, eL_T, arr_ln, arr_fn, arr_wd, arr_is, arr_get, hi, atL_of hx, Rm.cs, dm_toHdS h0, iv_toHdS h0, dm_toSfS h1, iv_toSfS h1, dm_toLI h2, iv_toLI h2]
    rw [wrapS (by omega), ← fill_set l default hx]
    congr 3
    refine set_atL (by rw [fill_len l default (by omega)]; exact hi) fun j' k' => ?_
    by_cases e : j' = i
    · subst e
      rcases k' with _ | _ | _ | _ | _ | _ | _ | _ | _ | _ | _ | k' <;> simp [setF_d, Rm.cs, atL_of hd, eL_T]
    · simp [setF_d, e]
  · rw [round_toRmS_1, fill_all]
    simp only [lt_d, Nat.lt_irrefl, decide_false, cond_false]
theorem s_toRmS : EntOk prog i_toRmS e_toRmS := ent_ok ea_RmS_inj fun l hl =>
  body_sound (φ := (tabS [(i_toRm, e_toRm)])) (tabS_cons s_toRm tabS_nil) mixed (kp := kp_toRmS) (n := l.length + 1) func62 (c := bodyOf F_toRmS) (by kernel_rfl) (body_toRmS l hl) (name_ok (by kernel_rfl))
def i_eqRmS : Nat := 71
noncomputable abbrev F_eqRmS : Func := f71
def kp_eqRmS : List (Nat × List Nat) := [(0, [0, 4]), (1, [0, 4, 40]), (2, [16]), (3, [0, 4, 20]), (4, [0, 4, 20, 56]), (5, [0, 4, 20]), (6, [0, 4, 20, 104]), (7, [16]), (8, [16])]
def ts_eqRmS : List Nat := [0, 0]
def st_eqRmS_1 (l r : List Rm) (x20 : Int) : St := [(0, ⟨z0, [(false, [.tr false (eL 11 Rm.cs l)])]⟩), (4, ⟨z0, [(false, [.tr false (eL 11 Rm.cs r)])]⟩), (20, ⟨z0, [(false, [.tr true (T.int IntKind.i64 x20)])]⟩)]
def ex_eqRmS_1_1 (l r : List Rm) (x20 : Int) : St := [(16, ⟨z0, [(false, [.tr true (T.bool false)])]⟩)]
def ex_eqRmS_1_2 (l r : List Rm) (x20 : Int) : St := [(0, ⟨z0, [(false, [.tr false (eL 11 Rm.cs l)])]⟩), (4, ⟨z0, [(false, [.tr false (eL 11 Rm.cs r)])]⟩), (20, ⟨z0, [(false, [.tr true (T.int IntKind.i64 x20)])]⟩), (56, ⟨z0, []⟩)]
theorem round_eqRmS_1 (l r : List Rm) (x20 : Int) (n : Nat) (K : Ex → St → Res) : roundAt prog (tabS [(i_eqRm, e_eqRm)]) kp_eqRmS F_eqRmS [1, 1, 0, 1, 0] n (st_eqRmS_1 l r x20) K = (
 bif decide (x20 < (↑l.length : Int)) then
  gd (decide (0 ≤ x20) && (x20.toNat.blt l.length && true)) <|
  gd (T.isI IntKind.i64 (atL Rm.cs l x20.toNat 0) && T.isI IntKind.i64 (atL Rm.cs l x20.toNat 1) &&
                  T.isI IntKind.i64 (atL Rm.cs l x20.toNat 2) &&
                T.isI IntKind.i64 (atL Rm.cs l x20.toNat 3) &&
              ((atL Rm.cs l x20.toNat 4).isArr && (atL Rm.cs l x20.toNat 4).wd.beq 2) &&
            T.isI IntKind.i64 (atL Rm.cs l x20.toNat 5) &&
          T.isI IntKind.i64 (atL Rm.cs l x20.toNat 6) &&
        (atL Rm.cs l x20.toNat 7).isB &&
      T.isI IntKind.i64 (atL Rm.cs l x20.toNat 8) &&
    ((atL Rm.cs l x20.toNat 9).isArr && (atL Rm.cs l x20.toNat 9).wd.beq 1) &&
  ((atL Rm.cs l x20.toNat 10).isArr && (atL Rm.cs l x20.toNat 10).wd.beq 1)) <|
  gd (decide (0 ≤ x20) && (x20.toNat.blt r.length && true)) <|
  gd (T.isI IntKind.i64 (atL Rm.cs r x20.toNat 0) && T.isI IntKind.i64 (atL Rm.cs r x20.toNat 1) &&
                  T.isI IntKind.i64 (atL Rm.cs r x20.toNat 2) &&
                T.isI IntKind.i64 (atL Rm.cs r x20.toNat 3) &&
              ((atL Rm.cs r x20.toNat 4).isArr && (atL Rm.cs r x20.toNat 4).wd.beq 2) &&
            T.isI IntKind.i64 (atL Rm.cs r x20.toNat 5) &&
          T.isI IntKind.i64 (atL Rm.cs r x20.toNat 6) &&
        (atL Rm.cs r x20.toNat 7).isB &&
      T.isI IntKind.i64 (atL Rm.cs r x20.toNat 8) &&
    ((atL Rm.cs r x20.toNat 9).isArr && (atL Rm.cs r x20.toNat 9).wd.beq 1) &&
  ((atL Rm.cs r x20.toNat 10).isArr && (atL Rm.cs r x20.toNat 10).wd.beq 1)) <|
  bif (atL Rm.cs l x20.toNat 0).toI != (atL Rm.cs r x20.toNat 0).toI then
   K .ret (ex_eqRmS_1_1 l r x20)
  else
  bif (atL Rm.cs l x20.toNat 1).toI != (atL Rm.cs r x20.toNat 1).toI then
   K .ret (ex_eqRmS_1_1 l r x20)
  else
  bif (atL Rm.cs l x20.toNat 2).toI != (atL Rm.cs r x20.toNat 2).toI then
   K .ret (ex_eqRmS_1_1 l r x20)
  else
  bif (atL Rm.cs l x20.toNat 3).toI != (atL Rm.cs r x20.toNat 3).toI then
   K .ret (ex_eqRmS_1_1 l r x20)
  else
  gd (dom ok2_HdS ea2_HdS
  [(0, false, [C.tr false (T.arr 2 (atL Rm.cs l x20.toNat 4).ln (atL Rm.cs l x20.toNat 4).fn)]),
    (0, false, [C.tr false (T.arr 2 (atL Rm.cs r x20.toNat 4).ln (atL Rm.cs r x20.toNat 4).fn)])]) <|
  bif !f_eqHdS
    (inv ok2_HdS ea2_HdS
      [(0, false, [C.tr false (T.arr 2 (atL Rm.cs l x20.toNat 4).ln (atL Rm.cs l x20.toNat 4).fn)]),
        (0, false, [C.tr false (T.arr 2 (atL Rm.cs r x20.toNat 4).ln (atL Rm.cs r x20.toNat 4).fn)])]) then
   K .ret (ex_eqRmS_1_1 l r x20)
  else
  bif (atL Rm.cs l x20.toNat 5).toI != (atL Rm.cs r x20.toNat 5).toI then
   K .ret (ex_eqRmS_1_1 l r x20)
  else
  bif (atL Rm.cs l x20.toNat 6).toI != (atL Rm.cs r x20.toNat 6).toI then
   K .ret (ex_eqRmS_1_1 l r x20)
  else
  bif !(atL Rm.cs l x20.toNat 7).toB == (atL Rm.cs r x20.toNat 7).toB then
   K .ret (ex_eqRmS_1_1 l r x20)
  else
  bif (atL Rm.cs l x20.toNat 8).toI != (atL Rm.cs r x20.toNat 8).toI then
   K .ret (ex_eqRmS_1_1 l r x20)
  else
  gd (dom ok2_SfS ea2_SfS
  [(0, false, [C.tr false (T.arr 1 (atL Rm.cs l x20.toNat 9).ln (atL Rm.cs l x20.toNat 9).fn)]),
    (0, false, [C.tr false (T.arr 1 (atL Rm.cs r x20.toNat 9).ln (atL Rm.cs r x20.toNat 9).fn)])]) <|
  bif !f_eqSfS
    (inv ok2_SfS ea2_SfS
      [(0, false, [C.tr false (T.arr 1 (atL Rm.cs l x20.toNat 9).ln (atL Rm.cs l x20.toNat 9).fn)]),
        (0, false, [C.tr false (T.arr 1 (atL Rm.cs r x20.toNat 9).ln (atL Rm.cs r x20.toNat 9).fn)])]) then
   K .ret (ex_eqRmS_1_1 l r x20)
  else
  gd (dom ok2_LI ea2_LI
  [(0, false, [C.tr false (T.arr 1 (atL Rm.cs l x20.toNat 10).ln (atL Rm.cs l x20.toNat 10).fn)]),
    (0, false, [C.tr false (T.arr 1 (atL Rm.cs r x20.toNat 10).ln (atL Rm.cs r x20.toNat 10).fn)])]) <|
  bif !f_eqLI
    (inv ok2_LI ea2_LI
      [(0, false, [C.tr false (T.arr 1 (atL Rm.cs l x20.toNat 10).ln (atL Rm.cs l x20.toNat 10).fn)]),
        (0, false, [C.tr false (T.arr 1 (atL Rm.cs r x20.toNat 10).ln (atL Rm.cs r x20.toNat 10).fn)])]) then
   K .ret (ex_eqRmS_1_1 l r x20)
  else
  K .normal (st_eqRmS_1 l r (IntKind.i64.wrap (x20 + 1)))
 else
 K (.exit 0) (ex_eqRmS_1_2 l r x20)) := by kernel_rfl
theorem post_eqRmS_1_1 (l r : List Rm) (x20 : Int) (n : Nat) : contAt prog (tabS [(i_eqRm, e_eqRm)]) kp_eqRmS F_eqRmS ts_eqRmS [1, 1, 0, 1, 0] [] n .ret (ex_eqRmS_1_1 l r x20) = (
 some ([(false, [.tr true (T.bool false)])], [(false, []), (false, [])])) := by kernel_rfl
theorem post_eqRmS_1_2 (l r : List Rm) (x20 : Int) (n : Nat) : contAt prog (tabS [(i_eqRm, e_eqRm)]) kp_eqRmS F_eqRmS ts_eqRmS [1, 1, 0, 1, 0] [] n (.exit 0) (ex_eqRmS_1_2 l r x20) = (
 some ([(false, [.tr true (T.bool true)])], [(false, []), (false, [])])) := by kernel_rfl
theorem pre_eqRmS (l r : List Rm) (n : Nat) : body prog (tabS [(i_eqRm, e_eqRm)]) kp_eqRmS n F_eqRmS [aT (eL 11 Rm.cs l), aT (eL 11 Rm.cs r)] = (
 bif (↑l.length : Int) != (↑r.length : Int) then
  some ([(false, [.tr true (T.bool false)])], [(false, []), (false, [])])
 else
 loopAt prog (tabS [(i_eqRm, e_eqRm)]) kp_eqRmS F_eqRmS [1, 1, 0, 1, 0] n n (st_eqRmS_1 l r (0)) (contAt prog (tabS [(i_eqRm, e_eqRm)]) kp_eqRmS F_eqRmS ts_eqRmS [1, 1, 0, 1, 0] [] n)) := by kernel_rfl
theorem body_eqRmS (l r : List Rm) (hl : okq_RmS l) : body prog (tabS [(i_eqRm, e_eqRm)]) kp_eqRmS (l.length + 1) F_eqRmS (ea2_RmS (l, r)) = some (erB 2 (f_eqRmS (l, r))) := by
  have hbm := bm
  have hl' : l.length ≤ BM := hl.1
  unfold ea2_RmS f_eqRmS
  dsimp only
  rw [pre_eqRmS, int_ne]
  by_cases h : l.length = r.length
  · rw [decide_eq_true (by omega)]
    simp only [Bool.not_true, cond_false]
    have hst : st_eqRmS_1 l r 0 = (fun i : Nat => st_eqRmS_1 l r (i : Nat)) 0 := rfl
    rw [hst, eqS l r h (fun i : Nat => st_eqRmS_1 l r (i : Nat)) (fun i : Nat => ex_eqRmS_1_1 l r (i : Nat)) (ex_eqRmS_1_2 l r l.length) (fun i x y K hx hy => ?_) (fun K => ?_) (fun i => post_eqRmS_1_1 l r _ _) (post_eqRmS_1_2 l r _ _) _ (Nat.le_refl _)]
    · by_cases e : l = r
      · rw [if_pos e, decide_eq_true e]; rfl
      · rw [if_neg e, decide_eq_false e]; rfl
    · have hi := (List.getElem?_eq_some_iff.1 hx).1
      have hi' := (List.getElem?_eq_some_iff.1 hy).1
      have hxm : x ∈ l := List.mem_of_getElem? hx
      have h0 := (hl.2 _ hxm).1
      have h1 := (hl.2 _ hxm).2.1
      have h2 := (hl.2 _ hxm).2.2
      rw [round_eqRmS_1]
      simp only [lt_d, ge0_d, Int.toNat_natCast, blt_d, ble_self, beq_self, decide_true, cond_true, Bool.and_self, Bool.and_true, Bool.true_and, gd_true, Nat.zero_add, List.getD_cons_zero, List.getD_cons_succ, isI_int, toI_int, isB_bool, toB_bool, eL_T, arr_ln, arr_fn, arr_wd, arr_is, arr_get, hi, hi', atL_of hx, atL_of hy, Rm.cs, int_ne, bool_ne, bool_eq, dm_eqHdS h0, iv_eqHdS h0, d_eqHdS, dm_eqSfS h1, iv_eqSfS h1, d_eqSfS, dm_eqLI h2, iv_eqLI h2, d_eqLI, chain]
      rw [wrapS (by omega)]
      have hxy : (x.h.slot = y.h.slot ∧ x.h.gen = y.h.gen ∧ x.up.slot = y.up.slot ∧ x.up.gen = y.up.gen ∧ x.kids = y.kids ∧ x.ep = y.ep ∧ x.chunks = y.chunks ∧ x.cur = y.cur ∧ x.bump = y.bump ∧ x.things = y.things ∧ x.tags = y.tags) ↔ x = y := by
        rcases x with ⟨⟨x0, x1⟩, ⟨x2, x3⟩, x4, x5, x6, x7, x8, x9, x10⟩
        rcases y with ⟨⟨y0, y1⟩, ⟨y2, y3⟩, y4, y5, y6, y7, y8, y9, y10⟩
        simp [and_assoc]
      simp only [hxy]
    · rw [round_eqRmS_1]
      simp only [lt_d, Nat.lt_irrefl, decide_false, cond_false]
  · rw [decide_eq_false (by omega)]
    have : ¬ l = r := fun e => h (by rw [e])
    rw [decide_eq_false this]
    rfl
theorem s_eqRmS : EntOk prog i_eqRmS e_eqRmS := ent_ok ea2_RmS_inj fun x hx =>
  body_sound (φ := (tabS [(i_eqRm, e_eqRm)])) (tabS_cons s_eqRm tabS_nil) mixed (kp := kp_eqRmS) (n := x.1.length + 1) func71 (c := bodyOf F_eqRmS) (by kernel_rfl) (body_eqRmS x.1 x.2 hx) (name_ok (by kernel_rfl))
theorem dm_toRmS {l : List Rm} (h : ok_RmS l) : dom ok_RmS ea_RmS [(0, false, [C.tr false (T.arr 11 l.length (atL Rm.cs l))])] = true := dom_ea (ea := ea_RmS) (x := l) h
theorem iv_toRmS {l : List Rm} (h : ok_RmS l) : inv ok_RmS ea_RmS [(0, false, [C.tr false (T.arr 11 l.length (atL Rm.cs l))])] = l := inv_ea ea_RmS_inj (x := l) h
theorem dm_eqRmS {l r : List Rm} (h : okq_RmS l) : dom ok2_RmS ea2_RmS [(0, false, [C.tr false (T.arr 11 l.length (atL Rm.cs l))]), (0, false, [C.tr false (T.arr 11 r.length (atL Rm.cs r))])] = true := dom_ea (ea := ea2_RmS) (x := (l, r)) h
theorem iv_eqRmS {l r : List Rm} (h : okq_RmS l) : inv ok2_RmS ea2_RmS [(0, false, [C.tr false (T.arr 11 l.length (atL Rm.cs l))]), (0, false, [C.tr false (T.arr 11 r.length (atL Rm.cs r))])] = (l, r) := inv_ea ea2_RmS_inj (x := (l, r)) h
theorem d_eqRmS (l r : List Rm) : f_eqRmS (l, r) = decide (l = r) := rfl
def n1_RmS (x : Rm) : Nat := n_HdS x.kids + n_SfS x.things + n_LI x.tags
def n_RmS (l : List Rm) : Nat := l.length + cntL n1_RmS l
def okz_RmS (l : List Rm) : Prop := l.length ≤ ZM ∧ ∀ x ∈ l, okz_HdS x.kids ∧ okz_SfS x.things ∧ okz_LI x.tags
def okzz_RmS (x : List Rm × Int) : Prop := okz_RmS x.1 ∧ 0 ≤ x.2 ∧ x.2 ≤ LM
def eaz_RmS (x : List Rm × Int) : List Arg := [aT (eL 11 Rm.cs x.1), aI x.2]
def f_szRmS (x : List Rm × Int) : Int := if (n_RmS x.1 : Int) ≤ x.2 then x.2 - n_RmS x.1 else -1
noncomputable def e_szRmS : Ent := ent [] okzz_RmS eaz_RmS (erI 2) f_szRmS
theorem eaz_RmS_inj (x y : List Rm × Int) (h : eaz_RmS x = eaz_RmS y) : x = y := by
  simp only [eaz_RmS, aI, aT, List.cons.injEq, Prod.mk.injEq, true_and, and_true, C.tr.injEq, T.int.injEq] at h
  exact Prod.ext (eL_inj Rm.cs_inj h.1) h.2
theorem dm_szRmS {l : List Rm} {k : Int} (h : okzz_RmS (l, k)) : dom okzz_RmS eaz_RmS [(0, false, [C.tr false (T.arr 11 l.length (atL Rm.cs l))]), (0, false, [C.tr false (T.int IntKind.i64 k)])] = true := dom_ea (ea := eaz_RmS) (x := (l, k)) h
theorem iv_szRmS {l : List Rm} {k : Int} (h : okzz_RmS (l, k)) : inv okzz_RmS eaz_RmS [(0, false, [C.tr false (T.arr 11 l.length (atL Rm.cs l))]), (0, false, [C.tr false (T.int IntKind.i64 k)])] = (l, k) := inv_ea eaz_RmS_inj (x := (l, k)) h
theorem y_szRmS {l : List Rm} {k : Int} (h : (n_RmS l : Int) ≤ k) : f_szRmS (l, k) = k - n_RmS l := if_pos h
theorem n_szRmS {l : List Rm} {k : Int} (h : ¬ (n_RmS l : Int) ≤ k) : f_szRmS (l, k) = -1 := if_neg h
def i_szRmS : Nat := 56
noncomputable abbrev F_szRmS : Func := f56
def kp_szRmS : List (Nat × List Nat) := [(0, [0, 4]), (1, [0, 4]), (2, [0, 4, 44]), (3, [16]), (4, [0, 4, 20]), (5, [0, 4, 20, 60]), (6, [0, 4, 20]), (7, [0, 4, 20]), (8, [0, 4, 20, 100]), (9, [16]), (10, [16])]
def ts_szRmS : List Nat := [0, 0]
def st_szRmS_1 (l : List Rm) (k : Int) (x4 : Int) (x20 : Int) : St := [(0, ⟨z0, [(false, [.tr false (eL 11 Rm.cs l)])]⟩), (4, ⟨z0, [(false, [.tr true (T.int IntKind.i64 x4)])]⟩), (20, ⟨z0, [(false, [.tr true (T.int IntKind.i64 x20)])]⟩)]
def ex_szRmS_1_1 (l : List Rm) (k : Int) (x4 : Int) (x20 : Int) : St := [(16, ⟨z0, [(false, [.tr true (T.int IntKind.i64 (-1))])]⟩)]
def ex_szRmS_1_2 (l : List Rm) (k : Int) (x4 : Int) (x20 : Int) : St := [(0, ⟨z0, [(false, [.tr false (eL 11 Rm.cs l)])]⟩), (4, ⟨z0, [(false, [.tr true (T.int IntKind.i64 x4)])]⟩), (20, ⟨z0, [(false, [.tr true (T.int IntKind.i64 x20)])]⟩), (60, ⟨z0, []⟩)]
theorem round_szRmS_1 (l : List Rm) (k : Int) (x4 : Int) (x20 : Int) (n : Nat) (K : Ex → St → Res) : roundAt prog (tabS [(i_szRm, e_szRm)]) kp_szRmS F_szRmS [1, 1, 1, 0, 1, 0] n (st_szRmS_1 l k x4 x20) K = (
 bif decide (x20 < (↑l.length : Int)) then
  gd (decide (0 ≤ x20) && (x20.toNat.blt l.length && true)) <|
  gd (T.isI IntKind.i64 (atL Rm.cs l x20.toNat 0) && T.isI IntKind.i64 (atL Rm.cs l x20.toNat 1) &&
                  T.isI IntKind.i64 (atL Rm.cs l x20.toNat 2) &&
                T.isI IntKind.i64 (atL Rm.cs l x20.toNat 3) &&
              ((atL Rm.cs l x20.toNat 4).isArr && (atL Rm.cs l x20.toNat 4).wd.beq 2) &&
            T.isI IntKind.i64 (atL Rm.cs l x20.toNat 5) &&
          T.isI IntKind.i64 (atL Rm.cs l x20.toNat 6) &&
        (atL Rm.cs l x20.toNat 7).isB &&
      T.isI IntKind.i64 (atL Rm.cs l x20.toNat 8) &&
    ((atL Rm.cs l x20.toNat 9).isArr && (atL Rm.cs l x20.toNat 9).wd.beq 1) &&
  ((atL Rm.cs l x20.toNat 10).isArr && (atL Rm.cs l x20.toNat 10).wd.beq 1)) <|
  bif decide (IntKind.i64.wrap (x4 - (↑(atL Rm.cs l x20.toNat 4).ln : Int)) < 0) then
   K .ret (ex_szRmS_1_1 l k x4 x20)
  else
  bif decide (IntKind.i64.wrap (x4 - (↑(atL Rm.cs l x20.toNat 4).ln : Int)) < 0) then
   K .ret (ex_szRmS_1_1 l k x4 x20)
  else
  gd (dom okzz_SfS eaz_SfS
  [(0, false, [C.tr false (T.arr 1 (atL Rm.cs l x20.toNat 9).ln (atL Rm.cs l x20.toNat 9).fn)]),
    (0, false, [C.tr false (T.int IntKind.i64 (IntKind.i64.wrap (x4 - (↑(atL Rm.cs l x20.toNat 4).ln : Int))))])]) <|
  bif decide
  (f_szSfS
      (inv okzz_SfS eaz_SfS
        [(0, false, [C.tr false (T.arr 1 (atL Rm.cs l x20.toNat 9).ln (atL Rm.cs l x20.toNat 9).fn)]),
          (0, false,
            [C.tr false (T.int IntKind.i64 (IntKind.i64.wrap (x4 - (↑(atL Rm.cs l x20.toNat 4).ln : Int))))])]) <
    0) then
   K .ret (ex_szRmS_1_1 l k x4 x20)
  else
  bif decide
  (IntKind.i64.wrap
      (f_szSfS
          (inv okzz_SfS eaz_SfS
            [(0, false, [C.tr false (T.arr 1 (atL Rm.cs l x20.toNat 9).ln (atL Rm.cs l x20.toNat 9).fn)]),
              (0, false,
                [C.tr false (T.int IntKind.i64 (IntKind.i64.wrap (x4 - (↑(atL Rm.cs l x20.toNat 4).ln : Int))))])]) -
        (↑(atL Rm.cs l x20.toNat 10).ln : Int)) <
    0) then
   K .ret (ex_szRmS_1_1 l k x4 x20)
  else
  bif decide
  (IntKind.i64.wrap
      (f_szSfS
          (inv okzz_SfS eaz_SfS
            [(0, false, [C.tr false (T.arr 1 (atL Rm.cs l x20.toNat 9).ln (atL Rm.cs l x20.toNat 9).fn)]),
              (0, false,
                [C.tr false (T.int IntKind.i64 (IntKind.i64.wrap (x4 - (↑(atL Rm.cs l x20.toNat 4).ln : Int))))])]) -
        (↑(atL Rm.cs l x20.toNat 10).ln : Int)) <
    0) then
   K .ret (ex_szRmS_1_1 l k x4 x20)
  else
  bif decide
  (IntKind.i64.wrap
      (f_szSfS
          (inv okzz_SfS eaz_SfS
            [(0, false, [C.tr false (T.arr 1 (atL Rm.cs l x20.toNat 9).ln (atL Rm.cs l x20.toNat 9).fn)]),
              (0, false,
                [C.tr false (T.int IntKind.i64 (IntKind.i64.wrap (x4 - (↑(atL Rm.cs l x20.toNat 4).ln : Int))))])]) -
        (↑(atL Rm.cs l x20.toNat 10).ln : Int)) <
    0) then
   K .ret (ex_szRmS_1_1 l k x4 x20)
  else
  K .normal (st_szRmS_1 l k (IntKind.i64.wrap
  (f_szSfS
      (inv okzz_SfS eaz_SfS
        [(0, false, [C.tr false (T.arr 1 (atL Rm.cs l x20.toNat 9).ln (atL Rm.cs l x20.toNat 9).fn)]),
          (0, false,
            [C.tr false (T.int IntKind.i64 (IntKind.i64.wrap (x4 - (↑(atL Rm.cs l x20.toNat 4).ln : Int))))])]) -
    (↑(atL Rm.cs l x20.toNat 10).ln : Int))) (IntKind.i64.wrap (x20 + 1)))
 else
 K (.exit 0) (ex_szRmS_1_2 l k x4 x20)) := by kernel_rfl
theorem post_szRmS_1_1 (l : List Rm) (k : Int) (x4 : Int) (x20 : Int) (n : Nat) : contAt prog (tabS [(i_szRm, e_szRm)]) kp_szRmS F_szRmS ts_szRmS [1, 1, 1, 0, 1, 0] [] n .ret (ex_szRmS_1_1 l k x4 x20) = (
 some ([(false, [.tr true (T.int IntKind.i64 (-1))])], [(false, []), (false, [])])) := by kernel_rfl
theorem post_szRmS_1_2 (l : List Rm) (k : Int) (x4 : Int) (x20 : Int) (n : Nat) : contAt prog (tabS [(i_szRm, e_szRm)]) kp_szRmS F_szRmS ts_szRmS [1, 1, 1, 0, 1, 0] [] n (.exit 0) (ex_szRmS_1_2 l k x4 x20) = (
 some ([(false, [.tr true (T.int IntKind.i64 x4)])], [(false, []), (false, [])])) := by kernel_rfl
theorem pre_szRmS (l : List Rm) (k : Int) (n : Nat) : body prog (tabS [(i_szRm, e_szRm)]) kp_szRmS n F_szRmS [aT (eL 11 Rm.cs l), aI k] = (
 bif decide (IntKind.i64.wrap (k - (↑l.length : Int)) < 0) then
  some ([(false, [.tr true (T.int IntKind.i64 (-1))])], [(false, []), (false, [])])
 else
 loopAt prog (tabS [(i_szRm, e_szRm)]) kp_szRmS F_szRmS [1, 1, 1, 0, 1, 0] n n (st_szRmS_1 l k (IntKind.i64.wrap (k - (↑l.length : Int))) (0)) (contAt prog (tabS [(i_szRm, e_szRm)]) kp_szRmS F_szRmS ts_szRmS [1, 1, 1, 0, 1, 0] [] n)) := by kernel_rfl
theorem round1_szRmS (l : List Rm) (k : Int) (hl : okz_RmS l) {n : Nat} (i : Nat) (x : Rm) (K : Ex → St → Res) (hx : l[i]? = some x) (hr : (cntL n1_RmS (l.take i) : Int) ≤ k - (l.length : Int)) (hk1 : k ≤ LM) : roundAt prog (tabS [(i_szRm, e_szRm)]) kp_szRmS F_szRmS [1, 1, 1, 0, 1, 0] n (st_szRmS_1 l k (k - (l.length : Int) - cntL n1_RmS (l.take i)) (i : Nat)) K = bif decide (k - (l.length : Int) - cntL n1_RmS (l.take i) < n1_RmS x) then K .ret (ex_szRmS_1_1 l k (k - (l.length : Int) - cntL n1_RmS (l.take i)) (i : Nat)) else K .normal (st_szRmS_1 l k (k - (l.length : Int) - cntL n1_RmS (l.take (i + 1))) ((i + 1 : Nat) : Int)) := by
    have hzm := zm
    have hlm := lm
    have hl' : l.length ≤ ZM := hl.1
    have hi := (List.getElem?_eq_some_iff.1 hx).1
    have hxm : x ∈ l := List.mem_of_getElem? hx
    have hc := cntL_take n1_RmS l hx
    have hcx : n1_RmS x = x.kids.length + n_SfS x.things + x.tags.length := rfl
    rw [hc, round_szRmS_1]
    obtain ⟨k0, hk⟩ : ∃ k0, k0 = k - (l.length : Int) - (cntL n1_RmS (l.take i) : Int) := ⟨_, rfl⟩
    have hk2 : k - (l.length : Int) - ((cntL n1_RmS (l.take i) + n1_RmS x : Nat) : Int) = k0 - (x.kids.length : Int) - (n_SfS x.things : Int) - (x.tags.length : Int) := by omega
    rw [hk2, ← hk]
    have hk3 : 0 ≤ k0 := by omega
    have hk4 : k0 ≤ LM := by omega
    simp (disch := omega) only [lt_d, ge0_d, Int.toNat_natCast, blt_d, ble_self, beq_self, decide_true, cond_true, Bool.and_self, Bool.and_true, Bool.true_and, gd_true, Nat.zero_add, List.getD_cons_zero, List.getD_cons_succ, isI_int, toI_int, isB_bool, toB_bool, eL_T, arr_ln, arr_fn, arr_wd, arr_is, arr_get, hi, atL_of hx, Rm.cs, wrapS]
    have h0 : x.kids.length ≤ ZM := (hl.2 _ hxm).1
    have h1 : x.things.length ≤ ZM := ((hl.2 _ hxm).2.1).1
    have h2 : x.tags.length ≤ ZM := (hl.2 _ hxm).2.2
    try simp (disch := omega) only [wrapI]
    by_cases e0 : k0 - (x.kids.length : Int) < 0
    case pos =>
      rw [decide_eq_true e0, decide_eq_true (show k0 < (n1_RmS x : Int) by omega)]
      rfl
    simp (disch := omega) only [decide_eq_false e0, cond_false, wrapI]
    have g1 : okzz_SfS (x.things, k0 - (x.kids.length : Int)) := ⟨(hl.2 _ hxm).2.1, by dsimp only; omega, by dsimp only; omega⟩
    simp only [dm_szSfS g1, iv_szSfS g1, gd_true]
    by_cases e1 : (n_SfS x.things : Int) ≤ k0 - (x.kids.length : Int)
    case neg =>
      simp only [n_szSfS e1]
      rw [decide_eq_true (show (-1 : Int) < 0 by omega), decide_eq_true (show k0 < (n1_RmS x : Int) by omega)]
      rfl
    simp only [y_szSfS e1]
    simp (disch := omega) only [decide_eq_false (show ¬ k0 - (x.kids.length : Int) - (n_SfS x.things : Int) < 0 by omega), cond_false, wrapI]
    try simp (disch := omega) only [wrapI]
    by_cases e2 : k0 - (x.kids.length : Int) - (n_SfS x.things : Int) - (x.tags.length : Int) < 0
    case pos =>
      rw [decide_eq_true e2, decide_eq_true (show k0 < (n1_RmS x : Int) by omega)]
      rfl
    simp (disch := omega) only [decide_eq_false e2, cond_false, wrapI]
    rw [decide_eq_false (show ¬ k0 < (n1_RmS x : Int) by omega)]
    simp only [cond_false]
    try congr 2
    try omega
theorem body_szRmS (l : List Rm) (k : Int) (h : okzz_RmS (l, k)) : body prog (tabS [(i_szRm, e_szRm)]) kp_szRmS (l.length + 1) F_szRmS (eaz_RmS (l, k)) = some (erI 2 (f_szRmS (l, k))) := by
  obtain ⟨hl, hk0, hk1⟩ := h
  have hzm := zm
  have hlm := lm
  dsimp only at hl hk0 hk1
  have hl' : l.length ≤ ZM := hl.1
  have hn : n_RmS l = l.length + cntL n1_RmS l := rfl
  unfold eaz_RmS f_szRmS
  dsimp only
  rw [pre_szRmS]
  simp (disch := omega) only [wrapI]
  by_cases hs : k - (l.length : Int) < 0
  · rw [decide_eq_true hs, if_neg (by omega)]
    rfl
  · rw [decide_eq_false hs]
    simp only [cond_false]
    have hst : st_szRmS_1 l k (k - (l.length : Int)) 0 = (fun i : Nat => st_szRmS_1 l k (k - (l.length : Int) - cntL n1_RmS (l.take i)) (i : Nat)) 0 := by simp [cntL]
    rw [hst, szS n1_RmS l (k - (l.length : Int)) (by omega) (fun i : Nat => st_szRmS_1 l k (k - (l.length : Int) - cntL n1_RmS (l.take i)) (i : Nat)) (fun i : Nat => ex_szRmS_1_1 l k (k - (l.length : Int) - cntL n1_RmS (l.take i)) (i : Nat)) (ex_szRmS_1_2 l k (k - (l.length : Int) - cntL n1_RmS l) l.length) (fun i x K hx hr => ?_) (fun K hr => ?_) (fun i => post_szRmS_1_1 l k _ _ _) (post_szRmS_1_2 l k _ _ _) _ (Nat.le_refl _)]
    · by_cases hq : (cntL n1_RmS l : Int) ≤ k - (l.length : Int)
      · rw [if_pos hq, if_pos (by omega), show k - (l.length : Int) - (cntL n1_RmS l : Int) = k - (n_RmS l : Int) by omega]
        rfl
      · rw [if_neg hq, if_neg (by omega)]
        rfl
    · exact round1_szRmS l k hl i x K hx hr hk1
    · rw [round_szRmS_1]
      simp only [lt_d, Nat.lt_irrefl, decide_false, cond_false, List.take_length]
theorem s_szRmS : EntOk prog i_szRmS e_szRmS := ent_ok eaz_RmS_inj fun x hx =>
  body_sound (φ := (tabS [(i_szRm, e_szRm)])) (tabS_cons s_szRm tabS_nil) mixed (kp := kp_szRmS) (n := x.1.length + 1) func56 (c := bodyOf F_szRmS) (by kernel_rfl) (body_szRmS x.1 x.2 hx) (name_ok (by kernel_rfl))
end Go.Mach.F
namespace Go.Mach.F
open Go Go.Mach Go.Proofs.Try
--=set_option maxRecDepth 100000
theorem Ml.cs_inj (x y : Ml) (h : ∀ k, x.cs.getD k .hole = y.cs.getD k .hole) : x = y := by
  have h0 := h 0; have h1 := h 1; have h2 := h 2; have h3 := h 3; have h4 := h 4; have h5 := h 5; have h6 := h 6; have h7 := h 7
  rcases x with ⟨⟨x0, x1, x2, x3, x4, x5⟩, x6, x7⟩
  rcases y with ⟨⟨y0, y1, y2, y3, y4, y5⟩, y6, y7⟩
  simp only [Ml.cs, List.getD_cons_zero, List.getD_cons_succ, T.int.injEq, T.bool.injEq, true_and] at h0 h1 h2 h3 h4 h5 h6 h7
  replace h6 := eL_inj Rm.cs_inj h6
  replace h7 := eI_inj h7
  subst h0; subst h1; subst h2; subst h3; subst h4; subst h5; subst h6; subst h7
  rfl
theorem Rm.cs_ext {x y : Rm} (h : x.cs = y.cs) : x = y := Rm.cs_inj x y fun k => by rw [h]
theorem Ml.cs_ext {x y : Ml} (h : x.cs = y.cs) : x = y := Ml.cs_inj x y fun k => by rw [h]
abbrev shSf : List Sh := [.arr [.int .u8]]
def z_Sf (x : Sf) : Prop := okz_LB x.b
theorem sh_Sf {ts : List T} (hh : ShTs ts shSf) : ∃ x : Sf, ts = x.cs ∧ z_Sf x := by
  obtain ⟨t0, ts, rfl, h0, hh⟩ := shs_cons hh
  obtain rfl := shs_nil hh
  obtain ⟨x0, rfl, z0⟩ := sh_LB h0
  exact ⟨⟨x0⟩, rfl, z0⟩
theorem sh_SfS {t : T} (h : ShT t (.arr shSf)) : ∃ l : List Sf, t = eL 1 Sf.cs l ∧ l.length ≤ ZM ∧ ∀ x ∈ l, z_Sf x := sh_list z_Sf (fun _ => rfl) (fun _ hts => sh_Sf hts) h
abbrev shRm : List Sh := [.int .i64, .int .i64, .int .i64, .int .i64, .arr shHd, .int .i64, .int .i64, .bool, .int .i64, .arr shSf, .arr [.int .i64]]
def z_Rm (x : Rm) : Prop := okz_HdS x.kids ∧ okz_SfS x.things ∧ okz_LI x.tags
theorem sh_Rm {ts : List T} (hh : ShTs ts shRm) : ∃ x : Rm, ts = x.cs ∧ z_Rm x := by
  obtain ⟨t0, ts, rfl, h0, hh⟩ := shs_cons hh
  obtain ⟨t1, ts, rfl, h1, hh⟩ := shs_cons hh
  obtain ⟨t2, ts, rfl, h2, hh⟩ := shs_cons hh
  obtain ⟨t3, ts, rfl, h3, hh⟩ := shs_cons hh
  obtain ⟨t4, ts, rfl, h4, hh⟩ := shs_cons hh
  obtain ⟨t5, ts, rfl, h5, hh⟩ := shs_cons hh
  obtain ⟨t6, ts, rfl, h6, hh⟩ := shs_cons hh
  obtain ⟨t7, ts, rfl, h7, hh⟩ := shs_cons hh
  obtain ⟨t8, ts, rfl, h8, hh⟩ := shs_cons hh
  obtain ⟨t9, ts, rfl, h9, hh⟩ := shs_cons hh
  obtain ⟨t10, ts, rfl, h10, hh⟩ := shs_cons hh
  obtain rfl := shs_nil hh
  obtain ⟨x0, rfl, _⟩ := sh_int h0
  obtain ⟨x1, rfl, _⟩ := sh_int h1
  obtain ⟨x2, rfl, _⟩ := sh_int h2
  obtain ⟨x3, rfl, _⟩ := sh_int h3
  obtain ⟨x4, rfl, z4, _⟩ := sh_HdS h4
  obtain ⟨x5, rfl, _⟩ := sh_int h5
  obtain ⟨x6, rfl, _⟩ := sh_int h6
  obtain ⟨x7, rfl⟩ := sh_bool h7
  obtain ⟨x8, rfl, _⟩ := sh_int h8
  obtain ⟨x9, rfl, z9, y9⟩ := sh_SfS h9
  obtain ⟨x10, rfl, z10⟩ := sh_LI h10
  exact ⟨⟨⟨x0, x1⟩, ⟨x2, x3⟩, x4, x5, x6, x7, x8, x9, x10⟩, rfl, ⟨z4, ⟨z9, y9⟩, z10⟩⟩
theorem sh_RmS {t : T} (h : ShT t (.arr shRm)) : ∃ l : List Rm, t = eL 11 Rm.cs l ∧ l.length ≤ ZM ∧ ∀ x ∈ l, z_Rm x := sh_list z_Rm (fun _ => rfl) (fun _ hts => sh_Rm hts) h
abbrev shMl : List Sh := [.int .i64, .int .i64, .int .i64, .int .i64, .int .i64, .int .i64, .arr shRm, .arr [.int .i64]]
def z_Ml (x : Ml) : Prop := okz_RmS x.rooms ∧ okz_LI x.log
theorem sh_Ml {ts : List T} (hh : ShTs ts shMl) : ∃ x : Ml, ts = x.cs ∧ z_Ml x := by
  obtain ⟨t0, ts, rfl, h0, hh⟩ := shs_cons hh
  obtain ⟨t1, ts, rfl, h1, hh⟩ := shs_cons hh
  obtain ⟨t2, ts, rfl, h2, hh⟩ := shs_cons hh
  obtain ⟨t3, ts, rfl, h3, hh⟩ := shs_cons hh
  obtain ⟨t4, ts, rfl, h4, hh⟩ := shs_cons hh
  obtain ⟨t5, ts, rfl, h5, hh⟩ := shs_cons hh
  obtain ⟨t6, ts, rfl, h6, hh⟩ := shs_cons hh
  obtain ⟨t7, ts, rfl, h7, hh⟩ := shs_cons hh
  obtain rfl := shs_nil hh
  obtain ⟨x0, rfl, _⟩ := sh_int h0
  obtain ⟨x1, rfl, _⟩ := sh_int h1
  obtain ⟨x2, rfl, _⟩ := sh_int h2
  obtain ⟨x3, rfl, _⟩ := sh_int h3
  obtain ⟨x4, rfl, _⟩ := sh_int h4
  obtain ⟨x5, rfl, _⟩ := sh_int h5
  obtain ⟨x6, rfl, z6, y6⟩ := sh_RmS h6
  obtain ⟨x7, rfl, z7⟩ := sh_LI h7
  exact ⟨⟨⟨x0, x1, x2, x3, x4, x5⟩, x6, x7⟩, rfl, ⟨⟨z6, y6⟩, z7⟩⟩
def ok_EqMl (x : Ml × Ml) : Prop := okq_RmS x.1.rooms ∧ okq_LI x.1.log
def ea_EqMl (x : Ml × Ml) : List Arg := [aR x.1.cs, aR x.2.cs]
def f_EqMl (x : Ml × Ml) : Bool := decide (x.1 = x.2)
noncomputable def e_EqMl : Ent := ent [] ok_EqMl ea_EqMl (erB 2) f_EqMl
theorem ea_EqMl_inj (x y : Ml × Ml) (h : ea_EqMl x = ea_EqMl y) : x = y := by
  obtain ⟨l1, r1⟩ := x
  obtain ⟨l2, r2⟩ := y
  simp only [ea_EqMl, List.cons.injEq, and_true, true_and] at h
  obtain ⟨e0, e1⟩ := h
  obtain rfl := Ml.cs_ext (aR_inj e0)
  obtain rfl := Ml.cs_ext (aR_inj e1)
  rfl
theorem dm_EqMl {l : Ml} {r : Ml} (h : ok_EqMl (l, r)) : dom ok_EqMl ea_EqMl [(0, true, [C.tr false (T.int IntKind.i64 l.c.chunks), C.tr false (T.int IntKind.i64 l.c.size), C.tr false (T.int IntKind.i64 l.c.slots), C.tr false (T.int IntKind.i64 l.c.tax), C.tr false (T.int IntKind.i64 l.c.slice), C.tr false (T.int IntKind.i64 l.c.gens), C.tr false (T.arr 11 l.rooms.length (atL Rm.cs l.rooms)), C.tr false (T.arr 1 l.log.length (atL rowI l.log))]), (0, true, [C.tr false (T.int IntKind.i64 r.c.chunks), C.tr false (T.int IntKind.i64 r.c.size), C.tr false (T.int IntKind.i64 r.c.slots), C.tr false (T.int IntKind.i64 r.c.tax), C.tr false (T.int IntKind.i64 r.c.slice), C.tr false (T.int IntKind.i64 r.c.gens), C.tr false (T.arr 11 r.rooms.length (atL Rm.cs r.rooms)), C.tr false (T.arr 1 r.log.length (atL rowI r.log))])] = true := dom_ea (ea := ea_EqMl) (x := (l, r)) h
theorem iv_EqMl {l : Ml} {r : Ml} (h : ok_EqMl (l, r)) : inv ok_EqMl ea_EqMl [(0, true, [C.tr false (T.int IntKind.i64 l.c.chunks), C.tr false (T.int IntKind.i64 l.c.size), C.tr false (T.int IntKind.i64 l.c.slots), C.tr false (T.int IntKind.i64 l.c.tax), C.tr false (T.int IntKind.i64 l.c.slice), C.tr false (T.int IntKind.i64 l.c.gens), C.tr false (T.arr 11 l.rooms.length (atL Rm.cs l.rooms)), C.tr false (T.arr 1 l.log.length (atL rowI l.log))]), (0, true, [C.tr false (T.int IntKind.i64 r.c.chunks), C.tr false (T.int IntKind.i64 r.c.size), C.tr false (T.int IntKind.i64 r.c.slots), C.tr false (T.int IntKind.i64 r.c.tax), C.tr false (T.int IntKind.i64 r.c.slice), C.tr false (T.int IntKind.i64 r.c.gens), C.tr false (T.arr 11 r.rooms.length (atL Rm.cs r.rooms)), C.tr false (T.arr 1 r.log.length (atL rowI r.log))])] = (l, r) := inv_ea ea_EqMl_inj (x := (l, r)) h
theorem d_EqMl (l : Ml) (r : Ml) : f_EqMl (l, r) = decide (l = r) := rfl
def i_EqMl : Nat := 26
noncomputable abbrev F_EqMl : Func := f26
def kp_EqMl : List (Nat × List Nat) := [(0, [8, 9, 12, 13]), (1, [8, 9, 12, 13, 40]), (2, [16]), (3, [8, 9, 12, 13, 64]), (4, [16]), (5, [88]), (6, [16]), (7, [16])]
theorem pre_EqMl (l : Ml) (r : Ml) (n : Nat) : body prog (tabS [(i_eqCf, e_eqCf), (i_eqRmS, e_eqRmS), (i_eqLI, e_eqLI)]) kp_EqMl n F_EqMl [aR l.cs, aR r.cs] = (
 bif l.c.1 != r.c.1 then
  some ([(false, [.tr true (T.bool false)])], [(false, []), (false, [])])
 else
 bif l.c.2 != r.c.2 then
  some ([(false, [.tr true (T.bool false)])], [(false, []), (false, [])])
 else
 bif l.c.3 != r.c.3 then
  some ([(false, [.tr true (T.bool false)])], [(false, []), (false, [])])
 else
 bif l.c.4 != r.c.4 then
  some ([(false, [.tr true (T.bool false)])], [(false, []), (false, [])])
 else
 bif l.c.5 != r.c.5 then
  some ([(false, [.tr true (T.bool false)])], [(false, []), (false, [])])
 else
 bif l.c.6 != r.c.6 then
  some ([(false, [.tr true (T.bool false)])], [(false, []), (false, [])])
 else
 gd (dom ok2_RmS ea2_RmS [(0, false, [C.tr false (eL 11 Rm.cs l.2)]), (0, false, [C.tr false (eL 11 Rm.cs r.2)])]) <|
 bif !f_eqRmS
    (inv ok2_RmS ea2_RmS [(0, false, [C.tr false (eL 11 Rm.cs l.2)]), (0, false, [C.tr false (eL 11 Rm.cs r.2)])]) then
  some ([(false, [.tr true (T.bool false)])], [(false, []), (false, [])])
 else
 gd (dom ok2_LI ea2_LI [(0, false, [C.tr false (eL 1 rowI l.3)]), (0, false, [C.tr false (eL 1 rowI r.3)])]) <|
 bif !f_eqLI (inv ok2_LI ea2_LI [(0, false, [C.tr false (eL 1 rowI l.3)]), (0, false, [C.tr false (eL 1 rowI r.3)])]) then
  some ([(false, [.tr true (T.bool false)])], [(false, []), (false, [])])
 else
 some ([(false, [.tr true (T.bool true)])], [(false, []), (false, [])])) := by kernel_rfl
theorem body_EqMl (l : Ml) (r : Ml) (n : Nat) (h : ok_EqMl (l, r)) : body prog (tabS [(i_eqCf, e_eqCf), (i_eqRmS, e_eqRmS), (i_eqLI, e_eqLI)]) kp_EqMl n F_EqMl (ea_EqMl (l, r)) = some (erB 2 (f_EqMl (l, r))) := by
  have h0 : okq_RmS l.rooms := h.1
  have h1 : okq_LI l.log := h.2
  unfold ea_EqMl f_EqMl
  try dsimp only
  rw [pre_EqMl]
  simp only [lt_d, ge0_d, Int.toNat_natCast, blt_d, ble_self, beq_self, decide_true, cond_true, Bool.and_self, Bool.and_true, Bool.true_and, gd_true, Nat.zero_add, List.getD_cons_zero, List.getD_cons_succ, isI_int, toI_int, isB_bool, toB_bool, eL_T, arr_ln, arr_fn, arr_wd, arr_is, arr_get, Ml.cs, int_ne, bool_ne, bool_eq, dm_eqRmS h0, iv_eqRmS h0, d_eqRmS, dm_eqLI h1, iv_eqLI h1, d_eqLI, chain]
  have hxy : (l.c.chunks = r.c.chunks ∧ l.c.size = r.c.size ∧ l.c.slots = r.c.slots ∧ l.c.tax = r.c.tax ∧ l.c.slice = r.c.slice ∧ l.c.gens = r.c.gens ∧ l.rooms = r.rooms ∧ l.log = r.log) ↔ l = r := by
    rcases l with ⟨⟨x0, x1, x2, x3, x4, x5⟩, x6, x7⟩
    rcases r with ⟨⟨y0, y1, y2, y3, y4, y5⟩, y6, y7⟩
    simp [and_assoc]
  simp only [hxy]
  by_cases e : l = r
  · simp only [e, decide_true, Bool.not_true, cond_false]
    rfl
  · simp only [e, decide_false, Bool.not_false, cond_true]
    rfl
theorem s_EqMl : EntOk prog i_EqMl e_EqMl := ent_ok ea_EqMl_inj fun x hx =>
  body_sound (φ := (tabS [(i_eqCf, e_eqCf), (i_eqRmS, e_eqRmS), (i_eqLI, e_eqLI)])) (tabS_cons s_eqCf (tabS_cons s_eqRmS (tabS_cons s_eqLI tabS_nil))) mixed (kp := kp_EqMl) (n := 0) func26 (c := bodyOf F_EqMl) (by kernel_rfl) (body_EqMl x.1 x.2 (0) hx) (name_ok (by kernel_rfl))
end Go.Mach.F
namespace Go.Mach.F
open Go Go.Mach Go.Proofs.Try
--=set_option maxRecDepth 100000
theorem cntL_mem {α : Type} (c : α → Nat) {x : α} : ∀ {l : List α}, x ∈ l → c x ≤ cntL c l
  | y :: l, h => by
    rcases List.mem_cons.1 h with rfl | h
    · unfold cntL; omega
    · have := cntL_mem c h
      unfold cntL
      omega
theorem okn_LI {l : List Int} (h : (n_LI l : Int) ≤ 1048576) : ok_LI l ∧ okq_LI l := by
  have := lm
  have := bm
  unfold n_LI at h
  exact ⟨by unfold ok_LI; omega, by unfold okq_LI; omega⟩
theorem okn_LB {l : List UInt8} (h : (n_LB l : Int) ≤ 1048576) : ok_LB l ∧ okq_LB l := by
  have := lm
  have := bm
  unfold n_LB at h
  exact ⟨by unfold ok_LB; omega, by unfold okq_LB; omega⟩
theorem okn_HdS {l : List Hd} (h : (n_HdS l : Int) ≤ 1048576) : ok_HdS l ∧ okq_HdS l := by
  have := lm
  have := bm
  unfold n_HdS at h
  exact ⟨⟨by omega, fun _ _ => trivial⟩, ⟨by omega, fun _ _ => trivial⟩⟩
theorem okn_SfS {l : List Sf} (h : (n_SfS l : Int) ≤ 1048576) : ok_SfS l ∧ okq_SfS l := by
  have := lm
  have := bm
  have e : n_SfS l = l.length + cntL n1_SfS l := rfl
  exact ⟨⟨by omega, fun x hx => (okn_LB (l := x.b) (by have := cntL_mem n1_SfS hx; have : n1_SfS x = n_LB x.b := rfl; omega)).1⟩, ⟨by omega, fun x hx => (okn_LB (l := x.b) (by have := cntL_mem n1_SfS hx; have : n1_SfS x = n_LB x.b := rfl; omega)).2⟩⟩
theorem okn_RmS {l : List Rm} (h : (n_RmS l : Int) ≤ 1048576) : ok_RmS l ∧ okq_RmS l := by
  have := lm
  have := bm
  have e : n_RmS l = l.length + cntL n1_RmS l := rfl
  exact ⟨⟨by omega, fun x hx => ⟨(okn_HdS (l := x.kids) (by have := cntL_mem n1_RmS hx; have : n1_RmS x = n_HdS x.kids + n_SfS x.things + n_LI x.tags := rfl; omega)).1, (okn_SfS (l := x.things) (by have := cntL_mem n1_RmS hx; have : n1_RmS x = n_HdS x.kids + n_SfS x.things + n_LI x.tags := rfl; omega)).1, (okn_LI (l := x.tags) (by have := cntL_mem n1_RmS hx; have : n1_RmS x = n_HdS x.kids + n_SfS x.things + n_LI x.tags := rfl; omega)).1⟩⟩, ⟨by omega, fun x hx => ⟨(okn_HdS (l := x.kids) (by have := cntL_mem n1_RmS hx; have : n1_RmS x = n_HdS x.kids + n_SfS x.things + n_LI x.tags := rfl; omega)).2, (okn_SfS (l := x.things) (by have := cntL_mem n1_RmS hx; have : n1_RmS x = n_HdS x.kids + n_SfS x.things + n_LI x.tags := rfl; omega)).2, (okn_LI (l := x.tags) (by have := cntL_mem n1_RmS hx; have : n1_RmS x = n_HdS x.kids + n_SfS x.things + n_LI x.tags := rfl; omega)).2⟩⟩⟩
end Go.Mach.F
namespace Go.Mach.F
open Go Go.Mach Go.Proofs.Try
--=set_option maxRecDepth 100000
def i_RoomOf1 : Nat := 143
noncomputable abbrev F_RoomOf1 : Func := f143
def kp_RoomOf1 : List (Nat × List Nat) := [(0, [4, 8, 9]), (1, [12])]
noncomputable def e_RoomOf1 : Ent := inl [0, 0] prog (tabS []) kp_RoomOf1 0 F_RoomOf1
theorem s_RoomOf1 : EntOk prog i_RoomOf1 e_RoomOf1 := inl_ok tabS_nil mixed (c := bodyOf F_RoomOf1) func143 (by kernel_rfl) (name_ok (by kernel_rfl))
def rof (l : List Rm) (h : Hd) : Int := match (List.range l.length).find? (fun i => decide (l[i]?.map Rm.h = some h)) with
  | some i => (i : Int)
  | none => -1
theorem hd_eq (x : Rm) (h : Hd) : (decide (x.h.slot = h.slot ∧ x.h.gen = h.gen)) = decide (some x.h = some h) := by
  refine decide_eq_decide.2 ?_
  rcases x with ⟨⟨_, _⟩, _⟩
  rcases h with ⟨_, _⟩
  simp
def ok_ixRm (x : List Rm × Hd) : Prop := x.1.length ≤ LM
def ea_ixRm (x : List Rm × Hd) : List Arg := [aT (eL 11 Rm.cs x.1), aF i_RoomOf1 x.2.cs]
def f_ixRm (x : List Rm × Hd) : Int := rof x.1 x.2
noncomputable def e_ixRm : Ent := ent [] ok_ixRm ea_ixRm (erI 2) f_ixRm
theorem ea_ixRm_inj (x y : List Rm × Hd) (h : ea_ixRm x = ea_ixRm y) : x = y := by
  obtain ⟨l1, h1⟩ := x
  obtain ⟨l2, h2⟩ := y
  simp only [ea_ixRm, List.cons.injEq, and_true, true_and] at h
  obtain ⟨e0, e1⟩ := h
  obtain rfl := eL_inj Rm.cs_inj (aT_inj e0)
  obtain rfl := Hd.cs_ext (aF_inj (by rfl) e1)
  rfl
theorem dm_ixRm {l : List Rm} {h : Hd} (h0 : ok_ixRm (l, h)) : dom ok_ixRm ea_ixRm [(0, false, [C.tr false (T.arr 11 l.length (atL Rm.cs l))]), (0, false, [C.fn 143 [Pt.pim 2 (pimF [T.int IntKind.i64 h.slot, T.int IntKind.i64 h.gen])]])] = true := dom_ea (ea := ea_ixRm) (x := (l, h)) h0
theorem iv_ixRm {l : List Rm} {h : Hd} (h0 : ok_ixRm (l, h)) : inv ok_ixRm ea_ixRm [(0, false, [C.tr false (T.arr 11 l.length (atL Rm.cs l))]), (0, false, [C.fn 143 [Pt.pim 2 (pimF [T.int IntKind.i64 h.slot, T.int IntKind.i64 h.gen])]])] = (l, h) := inv_ea ea_ixRm_inj (x := (l, h)) h0
theorem d_ixRm (l : List Rm) (h : Hd) : f_ixRm (l, h) = rof l h := rfl
def i_ixRm : Nat := 68
noncomputable abbrev F_ixRm : Func := f68
def kp_ixRm : List (Nat × List Nat) := [(0, [0, 4]), (1, [0, 4, 28, 32]), (2, [0, 4, 28, 32, 36]), (3, [0, 4, 20, 28, 32]), (4, [0, 4, 20, 28, 32, 64]), (5, [16]), (6, [0, 4, 28, 32]), (7, [16])]
def ts_ixRm : List Nat := [0, 0]
def st_ixRm_1 (l : List Rm) (h : Hd) (x32 : Int) : St := [(0, ⟨z0, [(false, [.tr false (eL 11 Rm.cs l)])]⟩), (4, ⟨z0, [(false, [(C.fn 143
  [Pt.pim [T.int IntKind.i64 h.1, T.int IntKind.i64 h.2].length
      (pimF [T.int IntKind.i64 h.1, T.int IntKind.i64 h.2])])])]⟩), (28, ⟨z0, [(false, [.tr true (T.int IntKind.i64 (↑l.length : Int))])]⟩), (32, ⟨z0, [(false, [.tr true (T.int IntKind.i64 x32)])]⟩)]
def ex_ixRm_1_1 (l : List Rm) (h : Hd) (x32 : Int) : St := [(16, ⟨z0, [(false, [.tr true (T.int IntKind.i64 x32)])]⟩)]
def ex_ixRm_1_2 (l : List Rm) (h : Hd) (x32 : Int) : St := [(0, ⟨z0, [(false, [.tr false (eL 11 Rm.cs l)])]⟩), (4, ⟨z0, [(false, [(C.fn 143
  [Pt.pim [T.int IntKind.i64 h.1, T.int IntKind.i64 h.2].length
      (pimF [T.int IntKind.i64 h.1, T.int IntKind.i64 h.2])])])]⟩), (28, ⟨z0, [(false, [.tr true (T.int IntKind.i64 (↑l.length : Int))])]⟩), (32, ⟨z0, [(false, [.tr true (T.int IntKind.i64 x32)])]⟩), (36, ⟨z0, []⟩)]
theorem round_ixRm_1 (l : List Rm) (h : Hd) (x32 : Int) (n : Nat) (K : Ex → St → Res) : roundAt prog (tabS [(i_RoomOf1, e_RoomOf1)]) kp_ixRm F_ixRm [1, 0, 1, 0] n (st_ixRm_1 l h x32) K = (
 bif decide (x32 < (↑l.length : Int)) then
  gd (decide (0 ≤ x32) && (x32.toNat.blt l.length && true)) <|
  gd (T.isI IntKind.i64 (atL Rm.cs l x32.toNat 0) && T.isI IntKind.i64 (atL Rm.cs l x32.toNat 1) &&
                  T.isI IntKind.i64 (atL Rm.cs l x32.toNat 2) &&
                T.isI IntKind.i64 (atL Rm.cs l x32.toNat 3) &&
              ((atL Rm.cs l x32.toNat 4).isArr && (atL Rm.cs l x32.toNat 4).wd.beq 2) &&
            T.isI IntKind.i64 (atL Rm.cs l x32.toNat 5) &&
          T.isI IntKind.i64 (atL Rm.cs l x32.toNat 6) &&
        (atL Rm.cs l x32.toNat 7).isB &&
      T.isI IntKind.i64 (atL Rm.cs l x32.toNat 8) &&
    ((atL Rm.cs l x32.toNat 9).isArr && (atL Rm.cs l x32.toNat 9).wd.beq 1) &&
  ((atL Rm.cs l x32.toNat 10).isArr && (atL Rm.cs l x32.toNat 10).wd.beq 1)) <|
  bif bif (atL Rm.cs l x32.toNat 0).toI == (T.int IntKind.i64 h.1).toI then
  bif (atL Rm.cs l x32.toNat 1).toI == (T.int IntKind.i64 h.2).toI then true else false
else false then
   K .ret (ex_ixRm_1_1 l h x32)
  else
  K .normal (st_ixRm_1 l h (IntKind.i64.wrap (x32 + 1)))
 else
 K (.exit 0) (ex_ixRm_1_2 l h x32)) := by kernel_rfl
theorem post_ixRm_1_1 (l : List Rm) (h : Hd) (x32 : Int) (n : Nat) : contAt prog (tabS [(i_RoomOf1, e_RoomOf1)]) kp_ixRm F_ixRm ts_ixRm [1, 0, 1, 0] [] n .ret (ex_ixRm_1_1 l h x32) = (
 some ([(false, [.tr true (T.int IntKind.i64 x32)])], [(false, []), (false, [])])) := by kernel_rfl
theorem post_ixRm_1_2 (l : List Rm) (h : Hd) (x32 : Int) (n : Nat) : contAt prog (tabS [(i_RoomOf1, e_RoomOf1)]) kp_ixRm F_ixRm ts_ixRm [1, 0, 1, 0] [] n (.exit 0) (ex_ixRm_1_2 l h x32) = (
 some ([(false, [.tr true (T.int IntKind.i64 (-1))])], [(false, []), (false, [])])) := by kernel_rfl
theorem pre_ixRm (l : List Rm) (h : Hd) (n : Nat) : body prog (tabS [(i_RoomOf1, e_RoomOf1)]) kp_ixRm n F_ixRm [aT (eL 11 Rm.cs l), aF i_RoomOf1 h.cs] = (
 loopAt prog (tabS [(i_RoomOf1, e_RoomOf1)]) kp_ixRm F_ixRm [1, 0, 1, 0] n n (st_ixRm_1 l h (0)) (contAt prog (tabS [(i_RoomOf1, e_RoomOf1)]) kp_ixRm F_ixRm ts_ixRm [1, 0, 1, 0] [] n)) := by kernel_rfl
theorem body_ixRm (l : List Rm) (h : Hd) (h0 : ok_ixRm (l, h)) : body prog (tabS [(i_RoomOf1, e_RoomOf1)]) kp_ixRm (l.length + 1) F_ixRm (ea_ixRm (l, h)) = some (erI 2 (f_ixRm (l, h))) := by
  have hlm := lm
  have hl : l.length ≤ LM := h0
  unfold ea_ixRm f_ixRm
  try dsimp only
  rw [pre_ixRm]
  have hst : st_ixRm_1 l h 0 = (fun i : Nat => st_ixRm_1 l h (i : Nat)) 0 := rfl
  rw [hst, forExit l.length (fun i : Nat => st_ixRm_1 l h (i : Nat)) (ex_ixRm_1_2 l h l.length) 0 (fun i => decide (l[i]?.map Rm.h = some h)) .ret (fun e => by cases e) (fun i : Nat => ex_ixRm_1_1 l h (i : Nat)) (fun i K hi => ?_) (fun K => ?_) _ (Nat.le_refl _)]
  · unfold rof
    cases (List.range l.length).find? (fun i => decide (l[i]?.map Rm.h = some h)) with
    | none => exact (post_ixRm_1_2 l h _ _).trans rfl
    | some i => exact (post_ixRm_1_1 l h _ _).trans rfl
  · have hx := List.getElem?_eq_getElem hi
    rw [round_ixRm_1]
    simp (disch := omega) only [lt_d, ge0_d, Int.toNat_natCast, blt_d, ble_self, beq_self, decide_true, cond_true, Bool.and_self, Bool.and_true, Bool.true_and, gd_true, Nat.zero_add, List.getD_cons_zero, List.getD_cons_succ, isI_int, toI_int, isB_bool, toB_bool, eL_T, arr_ln, arr_fn, arr_wd, arr_is, arr_get, hi, atL_of hx, hx, Option.map_some, Rm.cs, wrapS, int_eq, cond_tf, cond_bf, Bool.and_true, dec_and, hd_eq]
  · rw [round_ixRm_1]
    simp only [lt_d, Nat.lt_irrefl, decide_false, cond_false]
theorem s_ixRm : EntOk prog i_ixRm e_ixRm := ent_ok ea_ixRm_inj fun x hx =>
  body_sound (φ := (tabS [(i_RoomOf1, e_RoomOf1)])) (tabS_cons s_RoomOf1 tabS_nil) mixed (kp := kp_ixRm) (n := x.1.length + 1) func68 (c := bodyOf F_ixRm) (by kernel_rfl) (body_ixRm x.1 x.2 hx) (name_ok (by kernel_rfl))
def ok_sRoomOf (x : Ml × Hd) : Prop := x.1.rooms.length ≤ LM
def ea_sRoomOf (x : Ml × Hd) : List Arg := [aR x.1.cs, aR x.2.cs]
def f_sRoomOf (x : Ml × Hd) : Int := rof x.1.rooms x.2
noncomputable def e_sRoomOf : Ent := ent [] ok_sRoomOf ea_sRoomOf (erI 2) f_sRoomOf
theorem ea_sRoomOf_inj (x y : Ml × Hd) (h : ea_sRoomOf x = ea_sRoomOf y) : x = y := by
  obtain ⟨m1, h1⟩ := x
  obtain ⟨m2, h2⟩ := y
  simp only [ea_sRoomOf, List.cons.injEq, and_true, true_and] at h
  obtain ⟨e0, e1⟩ := h
  obtain rfl := Ml.cs_ext (aR_inj e0)
  obtain rfl := Hd.cs_ext (aR_inj e1)
  rfl
theorem dm_sRoomOf {m : Ml} {h : Hd} (h0 : ok_sRoomOf (m, h)) : dom ok_sRoomOf ea_sRoomOf [(0, true, [C.tr false (T.int IntKind.i64 m.c.chunks), C.tr false (T.int IntKind.i64 m.c.size), C.tr false (T.int IntKind.i64 m.c.slots), C.tr false (T.int IntKind.i64 m.c.tax), C.tr false (T.int IntKind.i64 m.c.slice), C.tr false (T.int IntKind.i64 m.c.gens), C.tr false (T.arr 11 m.rooms.length (atL Rm.cs m.rooms)), C.tr false (T.arr 1 m.log.length (atL rowI m.log))]), (0, true, [C.tr false (T.int IntKind.i64 h.slot), C.tr false (T.int IntKind.i64 h.gen)])] = true := dom_ea (ea := ea_sRoomOf) (x := (m, h)) h0
theorem iv_sRoomOf {m : Ml} {h : Hd} (h0 : ok_sRoomOf (m, h)) : inv ok_sRoomOf ea_sRoomOf [(0, true, [C.tr false (T.int IntKind.i64 m.c.chunks), C.tr false (T.int IntKind.i64 m.c.size), C.tr false (T.int IntKind.i64 m.c.slots), C.tr false (T.int IntKind.i64 m.c.tax), C.tr false (T.int IntKind.i64 m.c.slice), C.tr false (T.int IntKind.i64 m.c.gens), C.tr false (T.arr 11 m.rooms.length (atL Rm.cs m.rooms)), C.tr false (T.arr 1 m.log.length (atL rowI m.log))]), (0, true, [C.tr false (T.int IntKind.i64 h.slot), C.tr false (T.int IntKind.i64 h.gen)])] = (m, h) := inv_ea ea_sRoomOf_inj (x := (m, h)) h0
theorem d_sRoomOf (m : Ml) (h : Hd) : f_sRoomOf (m, h) = rof m.rooms h := rfl
def i_sRoomOf : Nat := 103
noncomputable abbrev F_sRoomOf : Func := f103
def kp_sRoomOf : List (Nat × List Nat) := [(0, [8, 9, 12, 13]), (1, [8, 9, 12, 13, 20]), (2, [8, 9, 12, 13, 20, 40]), (3, [8, 9, 12, 13, 20]), (4, [8, 9, 12, 13, 20, 80]), (5, [16]), (6, [16])]
def ts_sRoomOf : List Nat := [0, 0]
def st_sRoomOf_1 (m : Ml) (h : Hd) (x20 : Int) : St := [(8, ⟨z0, [(false, [(C.pt (Pt.ptr 9 0 [] 8 0 0))])]⟩), (9, ⟨z0, [(true, [.tr true (T.int IntKind.i64 m.c.1), .tr true (T.int IntKind.i64 m.c.2), .tr true (T.int IntKind.i64 m.c.3), .tr true (T.int IntKind.i64 m.c.4), .tr true (T.int IntKind.i64 m.c.5), .tr true (T.int IntKind.i64 m.c.6), .tr false (eL 11 Rm.cs m.2), .tr false (eL 1 rowI m.3)])]⟩), (12, ⟨z0, [(false, [(C.pt (Pt.ptr 13 0 [] 2 0 0))])]⟩), (13, ⟨z0, [(true, [.tr true (T.int IntKind.i64 h.1), .tr true (T.int IntKind.i64 h.2)])]⟩), (20, ⟨z0, [(false, [.tr true (T.int IntKind.i64 x20)])]⟩)]
def ex_sRoomOf_1_1 (m : Ml) (h : Hd) (x20 : Int) : St := [(16, ⟨z0, [(false, [.tr true (T.int IntKind.i64 x20)])]⟩)]
def ex_sRoomOf_1_2 (m : Ml) (h : Hd) (x20 : Int) : St := [(8, ⟨z0, [(false, [(C.pt (Pt.ptr 9 0 [] 8 0 0))])]⟩), (9, ⟨z0, [(true, [.tr true (T.int IntKind.i64 m.c.1), .tr true (T.int IntKind.i64 m.c.2), .tr true (T.int IntKind.i64 m.c.3), .tr true (T.int IntKind.i64 m.c.4), .tr true (T.int IntKind.i64 m.c.5), .tr true (T.int IntKind.i64 m.c.6), .tr false (eL 11 Rm.cs m.2), .tr false (eL 1 rowI m.3)])]⟩), (12, ⟨z0, [(false, [(C.pt (Pt.ptr 13 0 [] 2 0 0))])]⟩), (13, ⟨z0, [(true, [.tr true (T.int IntKind.i64 h.1), .tr true (T.int IntKind.i64 h.2)])]⟩), (20, ⟨z0, [(false, [.tr true (T.int IntKind.i64 x20)])]⟩), (40, ⟨z0, []⟩)]
theorem round_sRoomOf_1 (m : Ml) (h : Hd) (x20 : Int) (n : Nat) (K : Ex → St → Res) : roundAt prog (tabS []) kp_sRoomOf F_sRoomOf [1, 0, 1, 0] n (st_sRoomOf_1 m h x20) K = (
 bif decide (x20 < (↑m.2.length : Int)) then
  gd (decide (0 ≤ x20) && (x20.toNat.blt m.2.length && true)) <|
  gd (T.isI IntKind.i64 (atL Rm.cs m.2 x20.toNat 0) && T.isI IntKind.i64 (atL Rm.cs m.2 x20.toNat 1)) <|
  bif bif (atL Rm.cs m.2 x20.toNat 0).toI == h.1 then bif (atL Rm.cs m.2 x20.toNat 1).toI == h.2 then true else false
else false then
   K .ret (ex_sRoomOf_1_1 m h x20)
  else
  K .normal (st_sRoomOf_1 m h (IntKind.i64.wrap (x20 + 1)))
 else
 K (.exit 0) (ex_sRoomOf_1_2 m h x20)) := by kernel_rfl
theorem post_sRoomOf_1_1 (m : Ml) (h : Hd) (x20 : Int) (n : Nat) : contAt prog (tabS []) kp_sRoomOf F_sRoomOf ts_sRoomOf [1, 0, 1, 0] [] n .ret (ex_sRoomOf_1_1 m h x20) = (
 some ([(false, [.tr true (T.int IntKind.i64 x20)])], [(false, []), (false, [])])) := by kernel_rfl
theorem post_sRoomOf_1_2 (m : Ml) (h : Hd) (x20 : Int) (n : Nat) : contAt prog (tabS []) kp_sRoomOf F_sRoomOf ts_sRoomOf [1, 0, 1, 0] [] n (.exit 0) (ex_sRoomOf_1_2 m h x20) = (
 some ([(false, [.tr true (T.int IntKind.i64 (-1))])], [(false, []), (false, [])])) := by kernel_rfl
theorem pre_sRoomOf (m : Ml) (h : Hd) (n : Nat) : body prog (tabS []) kp_sRoomOf n F_sRoomOf [aR m.cs, aR h.cs] = (
 loopAt prog (tabS []) kp_sRoomOf F_sRoomOf [1, 0, 1, 0] n n (st_sRoomOf_1 m h (0)) (contAt prog (tabS []) kp_sRoomOf F_sRoomOf ts_sRoomOf [1, 0, 1, 0] [] n)) := by kernel_rfl
theorem body_sRoomOf (m : Ml) (h : Hd) (h0 : ok_sRoomOf (m, h)) : body prog (tabS []) kp_sRoomOf (m.rooms.length + 1) F_sRoomOf (ea_sRoomOf (m, h)) = some (erI 2 (f_sRoomOf (m, h))) := by
  have hlm := lm
  have hl : m.rooms.length ≤ LM := h0
  unfold ea_sRoomOf f_sRoomOf
  try dsimp only
  rw [pre_sRoomOf]
  have hst : st_sRoomOf_1 m h 0 = (fun i : Nat => st_sRoomOf_1 m h (i : Nat)) 0 := rfl
  rw [hst, forExit m.rooms.length (fun i : Nat => st_sRoomOf_1 m h (i : Nat)) (ex_sRoomOf_1_2 m h m.rooms.length) 0 (fun i => decide (m.rooms[i]?.map Rm.h = some h)) .ret (fun e => by cases e) (fun i : Nat => ex_sRoomOf_1_1 m h (i : Nat)) (fun i K hi => ?_) (fun K => ?_) _ (Nat.le_refl _)]
  · unfold rof
    cases (List.range m.rooms.length).find? (fun i => decide (m.rooms[i]?.map Rm.h = some h)) with
    | none => exact (post_sRoomOf_1_2 m h _ _).trans rfl
    | some i => exact (post_sRoomOf_1_1 m h _ _).trans rfl
  · have hx := List.getElem?_eq_getElem hi
    rw [round_sRoomOf_1]
    simp (disch := omega) only [lt_d, ge0_d, Int.toNat_natCast, blt_d, ble_self, beq_self, decide_true, cond_true, Bool.and_self, Bool.and_true, Bool.true_and, gd_true, Nat.zero_add, List.getD_cons_zero, List.getD_cons_succ, isI_int, toI_int, isB_bool, toB_bool, eL_T, arr_ln, arr_fn, arr_wd, arr_is, arr_get, hi, atL_of hx, hx, Option.map_some, Rm.cs, wrapS, int_eq, cond_tf, cond_bf, Bool.and_true, dec_and, hd_eq]
  · rw [round_sRoomOf_1]
    simp only [lt_d, Nat.lt_irrefl, decide_false, cond_false]
theorem s_sRoomOf : EntOk prog i_sRoomOf e_sRoomOf := ent_ok ea_sRoomOf_inj fun x hx =>
  body_sound (φ := (tabS [])) tabS_nil mixed (kp := kp_sRoomOf) (n := x.1.rooms.length + 1) func103 (c := bodyOf F_sRoomOf) (by kernel_rfl) (body_sRoomOf x.1 x.2 hx) (name_ok (by kernel_rfl))
def ok_iRoomOf (x : Ml × Hd) : Prop := x.1.rooms.length ≤ LM
def ea_iRoomOf (x : Ml × Hd) : List Arg := [aR x.1.cs, aR x.2.cs]
def f_iRoomOf (x : Ml × Hd) : Int := rof x.1.rooms x.2
noncomputable def e_iRoomOf : Ent := ent [] ok_iRoomOf ea_iRoomOf (erI 2) f_iRoomOf
theorem ea_iRoomOf_inj (x y : Ml × Hd) (h : ea_iRoomOf x = ea_iRoomOf y) : x = y := by
  obtain ⟨m1, h1⟩ := x
  obtain ⟨m2, h2⟩ := y
  simp only [ea_iRoomOf, List.cons.injEq, and_true, true_and] at h
  obtain ⟨e0, e1⟩ := h
  obtain rfl := Ml.cs_ext (aR_inj e0)
  obtain rfl := Hd.cs_ext (aR_inj e1)
  rfl
theorem dm_iRoomOf {m : Ml} {h : Hd} (h0 : ok_iRoomOf (m, h)) : dom ok_iRoomOf ea_iRoomOf [(0, true, [C.tr false (T.int IntKind.i64 m.c.chunks), C.tr false (T.int IntKind.i64 m.c.size), C.tr false (T.int IntKind.i64 m.c.slots), C.tr false (T.int IntKind.i64 m.c.tax), C.tr false (T.int IntKind.i64 m.c.slice), C.tr false (T.int IntKind.i64 m.c.gens), C.tr false (T.arr 11 m.rooms.length (atL Rm.cs m.rooms)), C.tr false (T.arr 1 m.log.length (atL rowI m.log))]), (0, true, [C.tr false (T.int IntKind.i64 h.slot), C.tr false (T.int IntKind.i64 h.gen)])] = true := dom_ea (ea := ea_iRoomOf) (x := (m, h)) h0
theorem iv_iRoomOf {m : Ml} {h : Hd} (h0 : ok_iRoomOf (m, h)) : inv ok_iRoomOf ea_iRoomOf [(0, true, [C.tr false (T.int IntKind.i64 m.c.chunks), C.tr false (T.int IntKind.i64 m.c.size), C.tr false (T.int IntKind.i64 m.c.slots), C.tr false (T.int IntKind.i64 m.c.tax), C.tr false (T.int IntKind.i64 m.c.slice), C.tr false (T.int IntKind.i64 m.c.gens), C.tr false (T.arr 11 m.rooms.length (atL Rm.cs m.rooms)), C.tr false (T.arr 1 m.log.length (atL rowI m.log))]), (0, true, [C.tr false (T.int IntKind.i64 h.slot), C.tr false (T.int IntKind.i64 h.gen)])] = (m, h) := inv_ea ea_iRoomOf_inj (x := (m, h)) h0
theorem d_iRoomOf (m : Ml) (h : Hd) : f_iRoomOf (m, h) = rof m.rooms h := rfl
def i_iRoomOf : Nat := 108
noncomputable abbrev F_iRoomOf : Func := f108
def kp_iRoomOf : List (Nat × List Nat) := [(0, [8, 9, 12, 13]), (1, [16])]
theorem pre_iRoomOf (m : Ml) (h : Hd) (n : Nat) : body prog (tabS [(i_ixRm, e_ixRm)]) kp_iRoomOf n F_iRoomOf [aR m.cs, aR h.cs] = (
 gd (dom ok_ixRm ea_ixRm
  [(0, false, [C.tr false (eL 11 Rm.cs m.2)]),
    (0, false, [C.fn 143 [Pt.pim 2 (pimF [T.int IntKind.i64 h.1, T.int IntKind.i64 h.2])]])]) <|
 some ([(false, [.tr true (T.int IntKind.i64
  (f_ixRm
    (inv ok_ixRm ea_ixRm
      [(0, false, [C.tr false (eL 11 Rm.cs m.2)]),
        (0, false, [C.fn 143 [Pt.pim 2 (pimF [T.int IntKind.i64 h.1, T.int IntKind.i64 h.2])]])])))])], [(false, []), (false, [])])) := by kernel_rfl
theorem body_iRoomOf (m : Ml) (h : Hd) (n : Nat) (h0 : ok_iRoomOf (m, h)) : body prog (tabS [(i_ixRm, e_ixRm)]) kp_iRoomOf n F_iRoomOf (ea_iRoomOf (m, h)) = some (erI 2 (f_iRoomOf (m, h))) := by
  have c : ok_ixRm (m.rooms, h) := h0
  unfold ea_iRoomOf f_iRoomOf
  try dsimp only
  rw [pre_iRoomOf]
  simp only [eL_T, dm_ixRm c, iv_ixRm c, d_ixRm, gd_true]
  rfl
theorem s_iRoomOf : EntOk prog i_iRoomOf e_iRoomOf := ent_ok ea_iRoomOf_inj fun x hx =>
  body_sound (φ := (tabS [(i_ixRm, e_ixRm)])) (tabS_cons s_ixRm tabS_nil) mixed (kp := kp_iRoomOf) (n := 0) func108 (c := bodyOf F_iRoomOf) (by kernel_rfl) (body_iRoomOf x.1 x.2 (0) hx) (name_ok (by kernel_rfl))
end Go.Mach.F
namespace Go.Mach.F
open Go Go.Mach Go.Proofs.Try
--=set_option maxRecDepth 100000
def dpn (l : List Rm) : Nat → Hd → Nat
  | 0, _ => 0
  | n + 1, h => match l[(rof l h).toNat]? with
    | some x => bif decide (0 ≤ rof l h) then dpn l n x.up + 1 else 0
    | none => 0
theorem rof_ltD {l : List Rm} {h : Hd} (e : 0 ≤ rof l h) : (rof l h).toNat < l.length := by
  unfold rof at e ⊢
  cases hf : (List.range l.length).find? (fun i => decide (l[i]?.map Rm.h = some h)) with
  | none => rw [hf] at e; simp at e
  | some i =>
    have := List.mem_of_find?_eq_some hf
    simpa using this
def ok_sDeepIn (x : Ml × Hd) : Prop := x.1.rooms.length ≤ LM
def ea_sDeepIn (x : Ml × Hd) : List Arg := [aR x.1.cs, aR x.2.cs]
def f_sDeepIn (x : Ml × Hd) : Int := ((dpn x.1.rooms x.1.rooms.length x.2 : Nat) : Int)
noncomputable def e_sDeepIn : Ent := ent [] ok_sDeepIn ea_sDeepIn (erI 2) f_sDeepIn
theorem ea_sDeepIn_inj (x y : Ml × Hd) (h : ea_sDeepIn x = ea_sDeepIn y) : x = y := by
  obtain ⟨m1, h1⟩ := x
  obtain ⟨m2, h2⟩ := y
  simp only [ea_sDeepIn, List.cons.injEq, and_true, true_and] at h
  obtain ⟨e0, e1⟩ := h
  obtain rfl := Ml.cs_ext (aR_inj e0)
  obtain rfl := Hd.cs_ext (aR_inj e1)
  rfl
theorem dm_sDeepIn {m : Ml} {h : Hd} (h0 : ok_sDeepIn (m, h)) : dom ok_sDeepIn ea_sDeepIn [(0, true, [C.tr false (T.int IntKind.i64 m.c.chunks), C.tr false (T.int IntKind.i64 m.c.size), C.tr false (T.int IntKind.i64 m.c.slots), C.tr false (T.int IntKind.i64 m.c.tax), C.tr false (T.int IntKind.i64 m.c.slice), C.tr false (T.int IntKind.i64 m.c.gens), C.tr false (T.arr 11 m.rooms.length (atL Rm.cs m.rooms)), C.tr false (T.arr 1 m.log.length (atL rowI m.log))]), (0, true, [C.tr false (T.int IntKind.i64 h.slot), C.tr false (T.int IntKind.i64 h.gen)])] = true := dom_ea (ea := ea_sDeepIn) (x := (m, h)) h0
theorem iv_sDeepIn {m : Ml} {h : Hd} (h0 : ok_sDeepIn (m, h)) : inv ok_sDeepIn ea_sDeepIn [(0, true, [C.tr false (T.int IntKind.i64 m.c.chunks), C.tr false (T.int IntKind.i64 m.c.size), C.tr false (T.int IntKind.i64 m.c.slots), C.tr false (T.int IntKind.i64 m.c.tax), C.tr false (T.int IntKind.i64 m.c.slice), C.tr false (T.int IntKind.i64 m.c.gens), C.tr false (T.arr 11 m.rooms.length (atL Rm.cs m.rooms)), C.tr false (T.arr 1 m.log.length (atL rowI m.log))]), (0, true, [C.tr false (T.int IntKind.i64 h.slot), C.tr false (T.int IntKind.i64 h.gen)])] = (m, h) := inv_ea ea_sDeepIn_inj (x := (m, h)) h0
theorem d_sDeepIn (m : Ml) (h : Hd) : f_sDeepIn (m, h) = ((dpn m.rooms m.rooms.length h : Nat) : Int) := rfl
def i_sDeepIn : Nat := 59
noncomputable abbrev F_sDeepIn : Func := f59
def kp_sDeepIn : List (Nat × List Nat) := [(0, [8, 9, 12, 13]), (1, [8, 9, 12, 13, 20]), (2, [8, 9, 12, 13, 20, 44]), (3, [8, 9, 12, 13, 20, 24]), (4, [8, 9, 12, 13, 20, 24, 64]), (5, [16]), (6, [8, 9, 12, 13, 20, 24]), (7, [8, 9, 12, 13, 20]), (8, [16])]
def ts_sDeepIn : List Nat := [0, 0]
def st_sDeepIn_1 (m : Ml) (h : Hd) (x13_0 : Int) (x13_1 : Int) (x20 : Int) : St := [(8, ⟨z0, [(false, [(C.pt (Pt.ptr 9 0 [] 8 0 0))])]⟩), (9, ⟨z0, [(true, [.tr true (T.int IntKind.i64 m.c.1), .tr true (T.int IntKind.i64 m.c.2), .tr true (T.int IntKind.i64 m.c.3), .tr true (T.int IntKind.i64 m.c.4), .tr true (T.int IntKind.i64 m.c.5), .tr true (T.int IntKind.i64 m.c.6), .tr false (eL 11 Rm.cs m.2), .tr false (eL 1 rowI m.3)])]⟩), (12, ⟨z0, [(false, [(C.pt (Pt.ptr 13 0 [] 2 0 0))])]⟩), (13, ⟨z0, [(true, [.tr true (T.int IntKind.i64 x13_0), .tr true (T.int IntKind.i64 x13_1)])]⟩), (20, ⟨z0, [(false, [.tr true (T.int IntKind.i64 x20)])]⟩)]
def ex_sDeepIn_1_1 (m : Ml) (h : Hd) (x13_0 : Int) (x13_1 : Int) (x20 : Int) : St := [(16, ⟨z0, [(false, [.tr true (T.int IntKind.i64 x20)])]⟩)]
def ex_sDeepIn_1_2 (m : Ml) (h : Hd) (x13_0 : Int) (x13_1 : Int) (x20 : Int) : St := [(8, ⟨z0, [(false, [(C.pt (Pt.ptr 9 0 [] 8 0 0))])]⟩), (9, ⟨z0, [(true, [.tr true (T.int IntKind.i64 m.c.1), .tr true (T.int IntKind.i64 m.c.2), .tr true (T.int IntKind.i64 m.c.3), .tr true (T.int IntKind.i64 m.c.4), .tr true (T.int IntKind.i64 m.c.5), .tr true (T.int IntKind.i64 m.c.6), .tr false (eL 11 Rm.cs m.2), .tr false (eL 1 rowI m.3)])]⟩), (12, ⟨z0, [(false, [(C.pt (Pt.ptr 13 0 [] 2 0 0))])]⟩), (13, ⟨z0, [(true, [.tr true (T.int IntKind.i64 x13_0), .tr true (T.int IntKind.i64 x13_1)])]⟩), (20, ⟨z0, [(false, [.tr true (T.int IntKind.i64 x20)])]⟩), (44, ⟨z0, []⟩)]
theorem round_sDeepIn_1 (m : Ml) (h : Hd) (x13_0 : Int) (x13_1 : Int) (x20 : Int) (n : Nat) (K : Ex → St → Res) : roundAt prog (tabS [(i_sRoomOf, e_sRoomOf)]) kp_sDeepIn F_sDeepIn [1, 1, 0, 0] n (st_sDeepIn_1 m h x13_0 x13_1 x20) K = (
 bif decide (x20 < (↑m.2.length : Int)) then
  gd (dom ok_sRoomOf ea_sRoomOf
  [(0, true,
      [C.tr false (T.int IntKind.i64 m.c.1), C.tr false (T.int IntKind.i64 m.c.2),
        C.tr false (T.int IntKind.i64 m.c.3), C.tr false (T.int IntKind.i64 m.c.4),
        C.tr false (T.int IntKind.i64 m.c.5), C.tr false (T.int IntKind.i64 m.c.6), C.tr false (eL 11 Rm.cs m.2),
        C.tr false (eL 1 rowI m.3)]),
    (0, true, [C.tr false (T.int IntKind.i64 x13_0), C.tr false (T.int IntKind.i64 x13_1)])]) <|
  bif decide
  (f_sRoomOf
      (inv ok_sRoomOf ea_sRoomOf
        [(0, true,
            [C.tr false (T.int IntKind.i64 m.c.1), C.tr false (T.int IntKind.i64 m.c.2),
              C.tr false (T.int IntKind.i64 m.c.3), C.tr false (T.int IntKind.i64 m.c.4),
              C.tr false (T.int IntKind.i64 m.c.5), C.tr false (T.int IntKind.i64 m.c.6),
              C.tr false (eL 11 Rm.cs m.2), C.tr false (eL 1 rowI m.3)]),
          (0, true, [C.tr false (T.int IntKind.i64 x13_0), C.tr false (T.int IntKind.i64 x13_1)])]) <
    0) then
   K .ret (ex_sDeepIn_1_1 m h x13_0 x13_1 x20)
  else
  gd (decide
    (0 ≤
      f_sRoomOf
        (inv ok_sRoomOf ea_sRoomOf
          [(0, true,
              [C.tr false (T.int IntKind.i64 m.c.1), C.tr false (T.int IntKind.i64 m.c.2),
                C.tr false (T.int IntKind.i64 m.c.3), C.tr false (T.int IntKind.i64 m.c.4),
                C.tr false (T.int IntKind.i64 m.c.5), C.tr false (T.int IntKind.i64 m.c.6),
                C.tr false (eL 11 Rm.cs m.2), C.tr false (eL 1 rowI m.3)]),
            (0, true, [C.tr false (T.int IntKind.i64 x13_0), C.tr false (T.int IntKind.i64 x13_1)])])) &&
  ((f_sRoomOf
            (inv ok_sRoomOf ea_sRoomOf
              [(0, true,
                  [C.tr false (T.int IntKind.i64 m.c.1), C.tr false (T.int IntKind.i64 m.c.2),
                    C.tr false (T.int IntKind.i64 m.c.3), C.tr false (T.int IntKind.i64 m.c.4),
                    C.tr false (T.int IntKind.i64 m.c.5), C.tr false (T.int IntKind.i64 m.c.6),
                    C.tr false (eL 11 Rm.cs m.2), C.tr false (eL 1 rowI m.3)]),
                (0, true, [C.tr false (T.int IntKind.i64 x13_0), C.tr false (T.int IntKind.i64 x13_1)])])).toNat.blt
      m.2.length &&
    true)) <|
  gd (T.isI IntKind.i64
    (atL Rm.cs m.2
      (f_sRoomOf
          (inv ok_sRoomOf ea_sRoomOf
            [(0, true,
                [C.tr false (T.int IntKind.i64 m.c.1), C.tr false (T.int IntKind.i64 m.c.2),
                  C.tr false (T.int IntKind.i64 m.c.3), C.tr false (T.int IntKind.i64 m.c.4),
                  C.tr false (T.int IntKind.i64 m.c.5), C.tr false (T.int IntKind.i64 m.c.6),
                  C.tr false (eL 11 Rm.cs m.2), C.tr false (eL 1 rowI m.3)]),
              (0, true, [C.tr false (T.int IntKind.i64 x13_0), C.tr false (T.int IntKind.i64 x13_1)])])).toNat
      2) &&
  T.isI IntKind.i64
    (atL Rm.cs m.2
      (f_sRoomOf
          (inv ok_sRoomOf ea_sRoomOf
            [(0, true,
                [C.tr false (T.int IntKind.i64 m.c.1), C.tr false (T.int IntKind.i64 m.c.2),
                  C.tr false (T.int IntKind.i64 m.c.3), C.tr false (T.int IntKind.i64 m.c.4),
                  C.tr false (T.int IntKind.i64 m.c.5), C.tr false (T.int IntKind.i64 m.c.6),
                  C.tr false (eL 11 Rm.cs m.2), C.tr false (eL 1 rowI m.3)]),
              (0, true, [C.tr false (T.int IntKind.i64 x13_0), C.tr false (T.int IntKind.i64 x13_1)])])).toNat
      3)) <|
  K .normal (st_sDeepIn_1 m h ((atL Rm.cs m.2
    (f_sRoomOf
        (inv ok_sRoomOf ea_sRoomOf
          [(0, true,
              [C.tr false (T.int IntKind.i64 m.c.1), C.tr false (T.int IntKind.i64 m.c.2),
                C.tr false (T.int IntKind.i64 m.c.3), C.tr false (T.int IntKind.i64 m.c.4),
                C.tr false (T.int IntKind.i64 m.c.5), C.tr false (T.int IntKind.i64 m.c.6),
                C.tr false (eL 11 Rm.cs m.2), C.tr false (eL 1 rowI m.3)]),
            (0, true, [C.tr false (T.int IntKind.i64 x13_0), C.tr false (T.int IntKind.i64 x13_1)])])).toNat
    2).toI) ((atL Rm.cs m.2
    (f_sRoomOf
        (inv ok_sRoomOf ea_sRoomOf
          [(0, true,
              [C.tr false (T.int IntKind.i64 m.c.1), C.tr false (T.int IntKind.i64 m.c.2),
                C.tr false (T.int IntKind.i64 m.c.3), C.tr false (T.int IntKind.i64 m.c.4),
                C.tr false (T.int IntKind.i64 m.c.5), C.tr false (T.int IntKind.i64 m.c.6),
                C.tr false (eL 11 Rm.cs m.2), C.tr false (eL 1 rowI m.3)]),
            (0, true, [C.tr false (T.int IntKind.i64 x13_0), C.tr false (T.int IntKind.i64 x13_1)])])).toNat
    3).toI) (IntKind.i64.wrap (x20 + 1)))
 else
 K (.exit 0) (ex_sDeepIn_1_2 m h x13_0 x13_1 x20)) := by kernel_rfl
theorem post_sDeepIn_1_1 (m : Ml) (h : Hd) (x13_0 : Int) (x13_1 : Int) (x20 : Int) (n : Nat) : contAt prog (tabS [(i_sRoomOf, e_sRoomOf)]) kp_sDeepIn F_sDeepIn ts_sDeepIn [1, 1, 0, 0] [] n .ret (ex_sDeepIn_1_1 m h x13_0 x13_1 x20) = (
 some ([(false, [.tr true (T.int IntKind.i64 x20)])], [(false, []), (false, [])])) := by kernel_rfl
theorem post_sDeepIn_1_2 (m : Ml) (h : Hd) (x13_0 : Int) (x13_1 : Int) (x20 : Int) (n : Nat) : contAt prog (tabS [(i_sRoomOf, e_sRoomOf)]) kp_sDeepIn F_sDeepIn ts_sDeepIn [1, 1, 0, 0] [] n (.exit 0) (ex_sDeepIn_1_2 m h x13_0 x13_1 x20) = (
 some ([(false, [.tr true (T.int IntKind.i64 x20)])], [(false, []), (false, [])])) := by kernel_rfl
theorem pre_sDeepIn (m : Ml) (h : Hd) (n : Nat) : body prog (tabS [(i_sRoomOf, e_sRoomOf)]) kp_sDeepIn n F_sDeepIn [aR m.cs, aR h.cs] = (
 loopAt prog (tabS [(i_sRoomOf, e_sRoomOf)]) kp_sDeepIn F_sDeepIn [1, 1, 0, 0] n n (st_sDeepIn_1 m h (h.1) (h.2) (0)) (contAt prog (tabS [(i_sRoomOf, e_sRoomOf)]) kp_sDeepIn F_sDeepIn ts_sDeepIn [1, 1, 0, 0] [] n)) := by kernel_rfl
theorem loop_sDeepIn (m : Ml) (h0 : Hd) (hl : m.rooms.length ≤ LM) (n mm : Nat) : ∀ (k i : Nat) (h : Hd), i + k = m.rooms.length → loopAt prog (tabS [(i_sRoomOf, e_sRoomOf)]) kp_sDeepIn F_sDeepIn [1, 1, 0, 0] n (k + 1 + mm) (st_sDeepIn_1 m h0 h.slot h.gen (i : Nat)) (contAt prog (tabS [(i_sRoomOf, e_sRoomOf)]) kp_sDeepIn F_sDeepIn ts_sDeepIn [1, 1, 0, 0] [] n) = some (erI 2 ((i + dpn m.rooms k h : Nat) : Int)) := by
  have hlm := lm
  intro k
  induction k with
  | zero =>
    intro i h hi
    have e1 : 0 + 1 + mm = mm + 1 := by omega
    have e2 : i = m.rooms.length := by omega
    subst e2
    rw [e1, loopAt_succ, round_sDeepIn_1]
    simp only [lt_d, Nat.lt_irrefl, decide_false, cond_false]
    exact (post_sDeepIn_1_2 m h0 _ _ _ n).trans rfl
  | succ k ih =>
    intro i h hi
    have e1 : k + 1 + 1 + mm = (k + 1 + mm) + 1 := by omega
    have hi' : i < m.rooms.length := by omega
    rw [e1, loopAt_succ, round_sDeepIn_1]
    by_cases e : 0 ≤ rof m.rooms h
    · have hx := List.getElem?_eq_getElem (rof_ltD e)
      obtain ⟨x, hxe⟩ : ∃ x, x = m.rooms[(rof m.rooms h).toNat]'(rof_ltD e) := ⟨_, rfl⟩
      rw [← hxe] at hx
      have hb := rof_ltD e
      have c : ok_sRoomOf (m, h) := hl
      have e' : ¬ rof m.rooms h < 0 := by omega
      simp (disch := omega) only [lt_d, ge0_d, Int.toNat_natCast, blt_d, ble_self, beq_self, decide_true, cond_true, Bool.and_self, Bool.and_true, Bool.true_and, gd_true, Nat.zero_add, List.getD_cons_zero, List.getD_cons_succ, isI_int, toI_int, isB_bool, toB_bool, eL_T, arr_ln, arr_fn, arr_wd, arr_is, arr_get, hi', dm_sRoomOf c, iv_sRoomOf c, d_sRoomOf, decide_eq_false e', cond_false, decide_eq_true e, blt_d, decide_eq_true hb, atL_of hx, Rm.cs, wrapS]
      have e3 : dpn m.rooms (k + 1) h = dpn m.rooms k x.up + 1 := by
        simp only [dpn, hx, decide_eq_true e, cond_true]
      rw [e3, show i + (dpn m.rooms k x.up + 1) = i + 1 + dpn m.rooms k x.up by omega]
      exact ih (i + 1) x.up (by omega)
    · have e' : rof m.rooms h < 0 := by omega
      have e3 : dpn m.rooms (k + 1) h = 0 := by
        unfold dpn
        cases m.rooms[(rof m.rooms h).toNat]? with
        | none => rfl
        | some x => simp only [decide_eq_false e, cond_false]
      rw [e3, Nat.add_zero]
      have c : ok_sRoomOf (m, h) := hl
      simp only [lt_d, ge0_d, Int.toNat_natCast, blt_d, ble_self, beq_self, decide_true, cond_true, Bool.and_self, Bool.and_true, Bool.true_and, gd_true, Nat.zero_add, List.getD_cons_zero, List.getD_cons_succ, isI_int, toI_int, isB_bool, toB_bool, eL_T, arr_ln, arr_fn, arr_wd, arr_is, arr_get, hi', dm_sRoomOf c, iv_sRoomOf c, d_sRoomOf, decide_eq_true e', decide_eq_false e, cond_true, cond_false]
      exact (post_sDeepIn_1_1 m h0 _ _ _ n).trans rfl
theorem body_sDeepIn (m : Ml) (h : Hd) (h0 : ok_sDeepIn (m, h)) : body prog (tabS [(i_sRoomOf, e_sRoomOf)]) kp_sDeepIn (m.rooms.length + 1) F_sDeepIn (ea_sDeepIn (m, h)) = some (erI 2 (f_sDeepIn (m, h))) := by
  have c : ok_sRoomOf (m, h) := h0
  unfold ea_sDeepIn f_sDeepIn
  try dsimp only
  rw [pre_sDeepIn]
  try simp only [eL_T, dm_sRoomOf c, iv_sRoomOf c, d_sRoomOf, gd_true]
  have := loop_sDeepIn m h h0 (m.rooms.length + 1) 0 m.rooms.length 0 h (by omega)
  rw [Nat.zero_add] at this
  exact this
theorem s_sDeepIn : EntOk prog i_sDeepIn e_sDeepIn := ent_ok ea_sDeepIn_inj fun x hx =>
  body_sound (φ := (tabS [(i_sRoomOf, e_sRoomOf)])) (tabS_cons s_sRoomOf tabS_nil) mixed (kp := kp_sDeepIn) (n := x.1.rooms.length + 1) func59 (c := bodyOf F_sDeepIn) (by kernel_rfl) (body_sDeepIn x.1 x.2 hx) (name_ok (by kernel_rfl))
def ok_iDeepIn (x : Ml × Hd) : Prop := x.1.rooms.length ≤ LM
def ea_iDeepIn (x : Ml × Hd) : List Arg := [aR x.1.cs, aR x.2.cs]
def f_iDeepIn (x : Ml × Hd) : Int := ((dpn x.1.rooms x.1.rooms.length x.2 : Nat) : Int)
noncomputable def e_iDeepIn : Ent := ent [] ok_iDeepIn ea_iDeepIn (erI 2) f_iDeepIn
theorem ea_iDeepIn_inj (x y : Ml × Hd) (h : ea_iDeepIn x = ea_iDeepIn y) : x = y := by
  obtain ⟨m1, h1⟩ := x
  obtain ⟨m2, h2⟩ := y
  simp only [ea_iDeepIn, List.cons.injEq, and_true, true_and] at h
  obtain ⟨e0, e1⟩ := h
  obtain rfl := Ml.cs_ext (aR_inj e0)
  obtain rfl := Hd.cs_ext (aR_inj e1)
  rfl
theorem dm_iDeepIn {m : Ml} {h : Hd} (h0 : ok_iDeepIn (m, h)) : dom ok_iDeepIn ea_iDeepIn [(0, true, [C.tr false (T.int IntKind.i64 m.c.chunks), C.tr false (T.int IntKind.i64 m.c.size), C.tr false (T.int IntKind.i64 m.c.slots), C.tr false (T.int IntKind.i64 m.c.tax), C.tr false (T.int IntKind.i64 m.c.slice), C.tr false (T.int IntKind.i64 m.c.gens), C.tr false (T.arr 11 m.rooms.length (atL Rm.cs m.rooms)), C.tr false (T.arr 1 m.log.length (atL rowI m.log))]), (0, true, [C.tr false (T.int IntKind.i64 h.slot), C.tr false (T.int IntKind.i64 h.gen)])] = true := dom_ea (ea := ea_iDeepIn) (x := (m, h)) h0
theorem iv_iDeepIn {m : Ml} {h : Hd} (h0 : ok_iDeepIn (m, h)) : inv ok_iDeepIn ea_iDeepIn [(0, true, [C.tr false (T.int IntKind.i64 m.c.chunks), C.tr false (T.int IntKind.i64 m.c.size), C.tr false (T.int IntKind.i64 m.c.slots), C.tr false (T.int IntKind.i64 m.c.tax), C.tr false (T.int IntKind.i64 m.c.slice), C.tr false (T.int IntKind.i64 m.c.gens), C.tr false (T.arr 11 m.rooms.length (atL Rm.cs m.rooms)), C.tr false (T.arr 1 m.log.length (atL rowI m.log))]), (0, true, [C.tr false (T.int IntKind.i64 h.slot), C.tr false (T.int IntKind.i64 h.gen)])] = (m, h) := inv_ea ea_iDeepIn_inj (x := (m, h)) h0
theorem d_iDeepIn (m : Ml) (h : Hd) : f_iDeepIn (m, h) = ((dpn m.rooms m.rooms.length h : Nat) : Int) := rfl
def i_iDeepIn : Nat := 65
noncomputable abbrev F_iDeepIn : Func := f65
def kp_iDeepIn : List (Nat × List Nat) := [(0, [8, 9, 12, 13]), (1, [8, 9, 12, 13, 20]), (2, [8, 9, 20, 24]), (3, [8, 9, 20, 24, 72]), (4, [8, 9, 20, 24]), (5, [8, 9, 20, 24]), (6, [16])]
def ts_iDeepIn : List Nat := [0, 0]
def st_iDeepIn_1 (m : Ml) (h : Hd) (x20 : Int) (x24 : Int) : St := [(8, ⟨z0, [(false, [(C.pt (Pt.ptr 9 0 [] 8 0 0))])]⟩), (9, ⟨z0, [(true, [.tr true (T.int IntKind.i64 m.c.1), .tr true (T.int IntKind.i64 m.c.2), .tr true (T.int IntKind.i64 m.c.3), .tr true (T.int IntKind.i64 m.c.4), .tr true (T.int IntKind.i64 m.c.5), .tr true (T.int IntKind.i64 m.c.6), .tr false (eL 11 Rm.cs m.2), .tr false (eL 1 rowI m.3)])]⟩), (20, ⟨z0, [(false, [.tr true (T.int IntKind.i64 x20)])]⟩), (24, ⟨z0, [(false, [.tr true (T.int IntKind.i64 x24)])]⟩)]
def ex_iDeepIn_1_1 (m : Ml) (h : Hd) (x20 : Int) (x24 : Int) : St := [(8, ⟨z0, [(false, [(C.pt (Pt.ptr 9 0 [] 8 0 0))])]⟩), (9, ⟨z0, [(true, [.tr true (T.int IntKind.i64 m.c.1), .tr true (T.int IntKind.i64 m.c.2), .tr true (T.int IntKind.i64 m.c.3), .tr true (T.int IntKind.i64 m.c.4), .tr true (T.int IntKind.i64 m.c.5), .tr true (T.int IntKind.i64 m.c.6), .tr false (eL 11 Rm.cs m.2), .tr false (eL 1 rowI m.3)])]⟩), (20, ⟨z0, [(false, [.tr true (T.int IntKind.i64 x20)])]⟩), (24, ⟨z0, [(false, [.tr true (T.int IntKind.i64 x24)])]⟩), (72, ⟨z0, []⟩)]
theorem round_iDeepIn_1 (m : Ml) (h : Hd) (x20 : Int) (x24 : Int) (n : Nat) (K : Ex → St → Res) : roundAt prog (tabS [(i_iRoomOf, e_iRoomOf)]) kp_iDeepIn F_iDeepIn [1, 1, 0, 1, 0] n (st_iDeepIn_1 m h x20 x24) K = (
 bif decide (0 ≤ x24) then
  bif decide (x20 < (↑m.2.length : Int)) then
   gd (decide (0 ≤ x24) && (x24.toNat.blt m.2.length && true)) <|
   gd (T.isI IntKind.i64 (atL Rm.cs m.2 x24.toNat 2) && T.isI IntKind.i64 (atL Rm.cs m.2 x24.toNat 3)) <|
   gd (dom ok_iRoomOf ea_iRoomOf
  [(0, true,
      [C.tr false (T.int IntKind.i64 m.c.1), C.tr false (T.int IntKind.i64 m.c.2),
        C.tr false (T.int IntKind.i64 m.c.3), C.tr false (T.int IntKind.i64 m.c.4),
        C.tr false (T.int IntKind.i64 m.c.5), C.tr false (T.int IntKind.i64 m.c.6), C.tr false (eL 11 Rm.cs m.2),
        C.tr false (eL 1 rowI m.3)]),
    (0, true,
      [C.tr false (T.int IntKind.i64 (atL Rm.cs m.2 x24.toNat 2).toI),
        C.tr false (T.int IntKind.i64 (atL Rm.cs m.2 x24.toNat 3).toI)])]) <|
   K .normal (st_iDeepIn_1 m h (IntKind.i64.wrap (x20 + 1)) (f_iRoomOf
  (inv ok_iRoomOf ea_iRoomOf
    [(0, true,
        [C.tr false (T.int IntKind.i64 m.c.1), C.tr false (T.int IntKind.i64 m.c.2),
          C.tr false (T.int IntKind.i64 m.c.3), C.tr false (T.int IntKind.i64 m.c.4),
          C.tr false (T.int IntKind.i64 m.c.5), C.tr false (T.int IntKind.i64 m.c.6), C.tr false (eL 11 Rm.cs m.2),
          C.tr false (eL 1 rowI m.3)]),
      (0, true,
        [C.tr false (T.int IntKind.i64 (atL Rm.cs m.2 x24.toNat 2).toI),
          C.tr false (T.int IntKind.i64 (atL Rm.cs m.2 x24.toNat 3).toI)])])))
  else
  K (.exit 0) (ex_iDeepIn_1_1 m h x20 x24)
 else
 K (.exit 0) (ex_iDeepIn_1_1 m h x20 x24)) := by kernel_rfl
theorem post_iDeepIn_1_1 (m : Ml) (h : Hd) (x20 : Int) (x24 : Int) (n : Nat) : contAt prog (tabS [(i_iRoomOf, e_iRoomOf)]) kp_iDeepIn F_iDeepIn ts_iDeepIn [1, 1, 0, 1, 0] [] n (.exit 0) (ex_iDeepIn_1_1 m h x20 x24) = (
 some ([(false, [.tr true (T.int IntKind.i64 x20)])], [(false, []), (false, [])])) := by kernel_rfl
theorem pre_iDeepIn (m : Ml) (h : Hd) (n : Nat) : body prog (tabS [(i_iRoomOf, e_iRoomOf)]) kp_iDeepIn n F_iDeepIn [aR m.cs, aR h.cs] = (
 gd (dom ok_iRoomOf ea_iRoomOf
  [(0, true,
      [C.tr false (T.int IntKind.i64 m.c.1), C.tr false (T.int IntKind.i64 m.c.2),
        C.tr false (T.int IntKind.i64 m.c.3), C.tr false (T.int IntKind.i64 m.c.4),
        C.tr false (T.int IntKind.i64 m.c.5), C.tr false (T.int IntKind.i64 m.c.6), C.tr false (eL 11 Rm.cs m.2),
        C.tr false (eL 1 rowI m.3)]),
    (0, true, [C.tr false (T.int IntKind.i64 h.1), C.tr false (T.int IntKind.i64 h.2)])]) <|
 loopAt prog (tabS [(i_iRoomOf, e_iRoomOf)]) kp_iDeepIn F_iDeepIn [1, 1, 0, 1, 0] n n (st_iDeepIn_1 m h (0) (f_iRoomOf
  (inv ok_iRoomOf ea_iRoomOf
    [(0, true,
        [C.tr false (T.int IntKind.i64 m.c.1), C.tr false (T.int IntKind.i64 m.c.2),
          C.tr false (T.int IntKind.i64 m.c.3), C.tr false (T.int IntKind.i64 m.c.4),
          C.tr false (T.int IntKind.i64 m.c.5), C.tr false (T.int IntKind.i64 m.c.6), C.tr false (eL 11 Rm.cs m.2),
          C.tr false (eL 1 rowI m.3)]),
      (0, true, [C.tr false (T.int IntKind.i64 h.1), C.tr false (T.int IntKind.i64 h.2)])]))) (contAt prog (tabS [(i_iRoomOf, e_iRoomOf)]) kp_iDeepIn F_iDeepIn ts_iDeepIn [1, 1, 0, 1, 0] [] n)) := by kernel_rfl
theorem loop_iDeepIn (m : Ml) (h0 : Hd) (hl : m.rooms.length ≤ LM) (n mm : Nat) : ∀ (k i : Nat) (h : Hd), i + k = m.rooms.length → loopAt prog (tabS [(i_iRoomOf, e_iRoomOf)]) kp_iDeepIn F_iDeepIn [1, 1, 0, 1, 0] n (k + 1 + mm) (st_iDeepIn_1 m h0 (i : Nat) (rof m.rooms h)) (contAt prog (tabS [(i_iRoomOf, e_iRoomOf)]) kp_iDeepIn F_iDeepIn ts_iDeepIn [1, 1, 0, 1, 0] [] n) = some (erI 2 ((i + dpn m.rooms k h : Nat) : Int)) := by
  have hlm := lm
  intro k
  induction k with
  | zero =>
    intro i h hi
    have e1 : 0 + 1 + mm = mm + 1 := by omega
    have e2 : i = m.rooms.length := by omega
    subst e2
    rw [e1, loopAt_succ, round_iDeepIn_1]
    simp only [lt_d, Nat.lt_irrefl, decide_false, cond_false]
    by_cases e : 0 ≤ rof m.rooms h
    · simp only [decide_eq_true e, cond_true]
      exact (post_iDeepIn_1_1 m h0 _ _ n).trans rfl
    · simp only [decide_eq_false e, cond_false]
      exact (post_iDeepIn_1_1 m h0 _ _ n).trans rfl
  | succ k ih =>
    intro i h hi
    have e1 : k + 1 + 1 + mm = (k + 1 + mm) + 1 := by omega
    have hi' : i < m.rooms.length := by omega
    rw [e1, loopAt_succ, round_iDeepIn_1]
    by_cases e : 0 ≤ rof m.rooms h
    · have hx := List.getElem?_eq_getElem (rof_ltD e)
      obtain ⟨x, hxe⟩ : ∃ x, x = m.rooms[(rof m.rooms h).toNat]'(rof_ltD e) := ⟨_, rfl⟩
      rw [← hxe] at hx
      have hb := rof_ltD e
      have c : ok_iRoomOf (m, x.up) := hl
      have e' : ¬ rof m.rooms h < 0 := by omega
      simp (disch := omega) only [lt_d, ge0_d, Int.toNat_natCast, blt_d, ble_self, beq_self, decide_true, cond_true, Bool.and_self, Bool.and_true, Bool.true_and, gd_true, Nat.zero_add, List.getD_cons_zero, List.getD_cons_succ, isI_int, toI_int, isB_bool, toB_bool, eL_T, arr_ln, arr_fn, arr_wd, arr_is, arr_get, hi', dm_iRoomOf c, iv_iRoomOf c, d_iRoomOf, decide_eq_false e', cond_false, decide_eq_true e, blt_d, decide_eq_true hb, atL_of hx, Rm.cs, wrapS]
      have e3 : dpn m.rooms (k + 1) h = dpn m.rooms k x.up + 1 := by
        simp only [dpn, hx, decide_eq_true e, cond_true]
      rw [e3, show i + (dpn m.rooms k x.up + 1) = i + 1 + dpn m.rooms k x.up by omega]
      exact ih (i + 1) x.up (by omega)
    · have e' : rof m.rooms h < 0 := by omega
      have e3 : dpn m.rooms (k + 1) h = 0 := by
        unfold dpn
        cases m.rooms[(rof m.rooms h).toNat]? with
        | none => rfl
        | some x => simp only [decide_eq_false e, cond_false]
      rw [e3, Nat.add_zero]
      have c : ok_iRoomOf (m, h) := hl
      simp only [lt_d, ge0_d, Int.toNat_natCast, blt_d, ble_self, beq_self, decide_true, cond_true, Bool.and_self, Bool.and_true, Bool.true_and, gd_true, Nat.zero_add, List.getD_cons_zero, List.getD_cons_succ, isI_int, toI_int, isB_bool, toB_bool, eL_T, arr_ln, arr_fn, arr_wd, arr_is, arr_get, hi', dm_iRoomOf c, iv_iRoomOf c, d_iRoomOf, decide_eq_true e', decide_eq_false e, cond_true, cond_false]
      exact (post_iDeepIn_1_1 m h0 _ _ n).trans rfl
theorem body_iDeepIn (m : Ml) (h : Hd) (h0 : ok_iDeepIn (m, h)) : body prog (tabS [(i_iRoomOf, e_iRoomOf)]) kp_iDeepIn (m.rooms.length + 1) F_iDeepIn (ea_iDeepIn (m, h)) = some (erI 2 (f_iDeepIn (m, h))) := by
  have c : ok_iRoomOf (m, h) := h0
  unfold ea_iDeepIn f_iDeepIn
  try dsimp only
  rw [pre_iDeepIn]
  try simp only [eL_T, dm_iRoomOf c, iv_iRoomOf c, d_iRoomOf, gd_true]
  have := loop_iDeepIn m h h0 (m.rooms.length + 1) 0 m.rooms.length 0 h (by omega)
  rw [Nat.zero_add] at this
  exact this
theorem s_iDeepIn : EntOk prog i_iDeepIn e_iDeepIn := ent_ok ea_iDeepIn_inj fun x hx =>
  body_sound (φ := (tabS [(i_iRoomOf, e_iRoomOf)])) (tabS_cons s_iRoomOf tabS_nil) mixed (kp := kp_iDeepIn) (n := x.1.rooms.length + 1) func65 (c := bodyOf F_iDeepIn) (by kernel_rfl) (body_iDeepIn x.1 x.2 hx) (name_ok (by kernel_rfl))
end Go.Mach.F
namespace Go.Mach
open Go
section
variable {P : Program} {φ : Sems}
theorem S.free {E σ a w} (h : S E σ a w) (t : Nat) (x : Value) (hr : (σ.get (slot t)).rows = []) : S E σ (a.put (some t) x) w := by
  obtain ⟨G, hG, hp⟩ := h
  refine ⟨G, ⟨hG.nd, hG.inj, hG.rng, hG.os, hG.tape, hG.output, hG.size, hG.kept, fun t' => ?_, hG.boxes, hG.exts, hG.xbox, hG.defers, ?_, hG.here⟩, hp⟩
  · by_cases e : t' = t
    · subst e
      rw [hr]
      trivial
    · have := hG.slots t'
      have e2 : (a.put (some t) x).tmps.getD t' undef = a.tmps.getD t' undef := by
        simp only [Act.put, Array.getD_eq_getD_getElem?]
        rw [Array.getElem?_setIfInBounds_ne (fun h => e h.symm)]
      rw [e2]
      exact this
  · have := hG.tm
    simpa [Act.put] using this
/-- What a function's code computes if it ends in a return. -/
def bodyR (P : Program) (φ : Sems) (kp : List (Nat × List Nat)) (n : Nat) (fn : Func) (X : Code) (args : List Arg) : Res :=
  exec P φ (kpOf kp) fn.ntmps none n X (initA fn.ntmps 0 args) fun e σ => match e with
    | .ret => resultsK P φ none fn (args.map (·.1)) σ fun rows outs => some (rows, outs)
    | _ => none
theorem ret_sound (hφ : SemsOk P φ) (hm : P.follows .mixedOrders = true) {kp : List (Nat × List Nat)} {n : Nat} {fn : Func} {X : Code} {args : List Arg} {rs outs : List Row} (h : bodyR P φ kp n fn X args = some (rs, outs))
    {w : World} {vals : Array Value} {γ : Nat → Gh} (hargs : ArgsX w args vals γ) {a : Act} (hS : S ⟨w, Dof γ, fn.ntmps, fun i => vals.getD i undef, fun t => initG fn.ntmps args γ (box t) []⟩ (initA fn.ntmps 0 args) a w) :
    X.wp P (fun e a w' => e = .ret ∧ bodyPost P fn (fun e w' => ∃ v δ, e = .returned v ∧ GrewD w w' (Dof γ) ∧ ResX w w' γ args vals rs outs v δ) .ret a w') a w := by
  unfold bodyR at h
  have h' := cast (exec_nat (P := P) (φ := φ) (fun o : Option (List Row × List Row) => o = some (rs, outs)) (z := none) (z' := False) (by simp) (kpOf kp) fn.ntmps n X (initA fn.ntmps 0 args) fun e σ => match e with
    | .ret => resultsK P φ none fn (args.map (·.1)) σ fun rows outs => some (rows, outs)
    | _ => none) h
  have hxb : ∀ i x, args[i]? = some x → x.1 = 2 → (fun t => initG fn.ntmps args γ (box t) []) (fn.ntmps + i) = γ i [] := fun i x hi ht => by
    simp only
    rw [initG_box, tagOf_eq hi, if_pos ht]
  refine cond_sound hm (E := ⟨w, Dof γ, fn.ntmps, fun i => vals.getD i undef, fun t => initG fn.ntmps args γ (box t) []⟩) hφ X _ _ _ _ _ h' hS fun e σ' a' w' hK hS => ?_
  cases e with
  | exit i => cases hK
  | normal => cases hK
  | ret => exact ⟨rfl, post_sound hargs hxb hS hK⟩
theorem clone_sound (hφ : SemsOk P φ) (hm : P.follows .mixedOrders = true) {kp : List (Nat × List Nat)} {n : Nat} {f : FuncId} {fn : Func} (hf : P.funcs[f]? = some fn) (hN : fn.name ≠ "runtime.NumGoroutine") {o0 o1 o2 : Oper} {A B : Code}
    (hc : fn.body = some (.seq (.region 0 #[o0] false) (.seq (.seq (.region 1 #[o1, o2] false) (.cond (.tmp 4) A .skip)) B)))
    (g0 : o0.guard = none) (g1 : o1.guard = none) (g2 : o2.guard = none)
    (h0 : ∀ a w K Q, K (a.put (some 2) (.slice none 0 0)) w → o0.wp P a w K Q)
    (h1 : ∀ a w K Q, K (a.put (some 3) (a.eval (.tmp 0))) w → o1.wp P a w K Q)
    (h2 : ∀ a w K Q Ad k c, a.eval (.tmp 3) = .slice Ad k c → K (a.put (some 4) (.bool Ad.isNone)) w → o2.wp P a w K Q)
    (hnt : 5 ≤ fn.ntmps) {m k : Nat} {ft : Nat → Nat → T} {rs outs : List Row}
    (hA : k = 0 → bodyR P φ kp n fn A [F.aT (.arr m k ft)] = some (rs, outs))
    (hB : bodyR P φ kp n fn B [F.aT (.arr m k ft)] = some (rs, outs)) : Sound P f [F.aT (.arr m k ft)] rs outs := by
  refine ⟨⟨fn, hf, by rw [hc]; rfl, hN⟩, fun w vals γ hargs => ?_⟩
  have hS := S.init (nt := fn.ntmps) hargs (by simp only [List.length_cons, List.length_nil]; omega)
  obtain ⟨v, hv, hok⟩ := hargs.arg 0 _ rfl
  have hr : RelIm w (calleeEnv w (Dof γ)).N (.arr m k ft) v := by
    unfold ArgOk at hok
    rw [if_neg (by simp [F.aT]), if_neg (by simp [F.aT])] at hok
    exact hok (fun _ => noG) fun _ => z0
  obtain ⟨Ad, cap, rfl, hcap, hpos⟩ := hr
  refine calls_of_wp hf hc ?_
  have hsz := hargs.size
  simp only [List.length_cons, List.length_nil] at hsz
  generalize ha : (⟨vals ++ Array.replicate (fn.ntmps - vals.size) undef, []⟩ : Act) = a at hS ⊢
  have hat : a.tmps.size = fn.ntmps := by rw [← ha]; simp; omega
  have ha0 : a.eval (.tmp 0) = .slice Ad k cap := by
    rw [← ha]
    simp only [Act.eval, Array.getD_eq_getD_getElem?]
    rw [Array.getElem?_append_left (by omega), hv]
    rfl
  have want : ∀ (o : Oper) t, o.guard = none → Region.wanted o t = true := fun o t h => by simp [Region.wanted, h]
  refine wp_seq (wp_region ?_)
  show wpOps P #[o0] _ [0] a w
  simp only [wpOps, List.getElem?_toArray, List.getElem?_cons_zero, want _ _ g0, if_true]
  refine .inl (h0 _ _ _ _ ?_)
  refine wp_seq (wp_seq (wp_region ?_))
  show wpOps P #[o1, o2] _ [0, 1] _ w
  simp only [wpOps, List.getElem?_toArray, List.getElem?_cons_zero, List.getElem?_cons_succ, want _ _ g1, want _ _ g2, if_true]
  refine .inl (h1 _ _ _ _ (.inl (h2 _ _ _ _ Ad k cap ?_ ?_)))
  · have e1 : (a.put (some 2) (.slice none 0 0)).eval (.tmp 0) = .slice Ad k cap := by
      rw [← ha0]
      simp [Act.put, Act.eval, Array.getD_eq_getD_getElem?]
    rw [e1]
    have h3 : 3 < a.tmps.size := by omega
    simp [Act.put, Act.eval, Array.getD_eq_getD_getElem?, Array.getElem?_setIfInBounds, h3]
  · generalize hx : (a.put (some 2) (Value.slice none 0 0)).eval (.tmp 0) = x
    have hS2 : S ⟨w, Dof γ, fn.ntmps, fun i => vals.getD i undef, fun t => initG fn.ntmps [F.aT (.arr m k ft)] γ (box t) []⟩ (initA fn.ntmps 0 [F.aT (.arr m k ft)]) ((((a.put (some 2) (.slice none 0 0))).put (some 3) x).put (some 4) (.bool Ad.isNone)) w :=
      ((hS.free 2 _ rfl).free 3 _ rfl).free 4 _ rfl
    have e4 : ((((a.put (some 2) (Value.slice none 0 0))).put (some 3) x).put (some 4) (.bool Ad.isNone)).eval (.tmp 4) = .bool Ad.isNone := by
      have h4 : 4 < a.tmps.size := by omega
      simp [Act.put, Act.eval, Array.getD_eq_getD_getElem?, Array.getElem?_setIfInBounds, h4]
    refine wp_cond e4 ?_
    cases Ad with
    | none =>
      have hk : k = 0 := by
        rcases Nat.eq_zero_or_pos k with h | h
        · exact h
        · obtain ⟨b, off, he, _⟩ := hpos h
          cases he
      refine wp_mono (ret_sound hφ hm (hA hk) hargs hS2) fun e a' w' hq => ?_
      obtain ⟨rfl, hq⟩ := hq
      exact hq
    | some ad =>
      refine wp_skip ?_
      refine wp_mono (ret_sound hφ hm hB hargs hS2) fun e a' w' hq => ?_
      obtain ⟨rfl, hq⟩ := hq
      exact hq
end
end Go.Mach
namespace Go.Mach.F
open Go Go.Mach Go.Proofs.Try
--=set_option maxRecDepth 100000
theorem plain_I (l : List Int) : plainF (atL rowI l) = atL rowI l := by
  funext j k
  unfold plainF atL
  cases l[j]? with
  | none => rfl
  | some x => cases k <;> rfl
theorem plain_B (l : List UInt8) : plainF (atL rowB l) = atL rowB l := by
  funext j k
  unfold plainF atL
  cases l[j]? with
  | none => rfl
  | some x => cases k <;> rfl
theorem plain_Hd (l : List Hd) : plainF (atL Hd.cs l) = atL Hd.cs l := by
  funext j k
  unfold plainF atL
  cases l[j]? with
  | none => rfl
  | some x => rcases k with _ | _ | k <;> rfl
theorem app0 (f g : Nat → Nat → T) : appF 0 f g = g := by
  funext j k
  unfold appF
  rfl
def i_clB : Nat := 141
def ok_clB (l : List UInt8) : Prop := l.length ≤ LM
def ea_clB (l : List UInt8) : List Arg := [aT (eB l)]
def f_clB (l : List UInt8) : List UInt8 := l
noncomputable def e_clB : Ent := ent [] ok_clB ea_clB (fun l => erT 1 (eB l)) f_clB
theorem ea_clB_inj (x y : List UInt8) (h : ea_clB x = ea_clB y) : x = y := by
  simp only [ea_clB, aT, List.cons.injEq, Prod.mk.injEq, true_and, and_true, C.tr.injEq] at h
  exact eB_inj h
theorem dm_clB {l : List UInt8} (h : ok_clB l) : dom ok_clB ea_clB [(0, false, [C.tr false (T.arr 1 l.length (atL rowB l))])] = true := dom_ea (ea := ea_clB) (x := l) h
theorem iv_clB {l : List UInt8} (h : ok_clB l) : inv ok_clB ea_clB [(0, false, [C.tr false (T.arr 1 l.length (atL rowB l))])] = l := inv_ea ea_clB_inj (x := l) h
theorem d_clB (l : List UInt8) : f_clB l = l := rfl
theorem br_clB (l : List UInt8) : bodyR prog (tabS []) [(0, [0]), (1, [0, 16]), (2, [8]), (3, [8])] 0 f141 (sub (bodyOf f141) [1, 1]) [aT (eB l)] = (
 gd (((0 + l.length) * 1).ble 70368744177664 && (0 + l.length).ble 70368744177664) <|
 gd ((0 + l.length).ble (0 + l.length) && true) <|
 gd ((0 + l.length).ble (0 + l.length) && true) <|
 some ([(false, [.tr true (.arr (1) (0 + l.length) (appF 0 (fun j k => T.hole) (plainF (atL rowB l))))])], [(false, [])])) := by kernel_rfl
theorem s_clB : EntOk prog i_clB e_clB := ent_ok ea_clB_inj fun l hl => by
  have hlm := lm
  have hl' : l.length ≤ LM := hl
  have hb := br_clB l
  simp only [Nat.zero_add, ble_d, Nat.le_refl, decide_true, Bool.and_true, gd_true, app0, plain_B] at hb
  rw [decide_eq_true (show l.length * 1 ≤ 70368744177664 by omega), decide_eq_true (show l.length ≤ 70368744177664 by omega)] at hb
  simp only [Bool.and_true, gd_true] at hb
  refine clone_sound (φ := tabS []) tabS_nil mixed (kp := [(0, [0]), (1, [0, 16]), (2, [8]), (3, [8])]) (n := 0) func141 (name_ok (by kernel_rfl)) (hc := rfl) rfl rfl rfl (fun a w K Q h => wp_value rfl h) (fun a w K Q h => wp_value rfl h) (fun a w K Q Ad k c he h => ?_) (by decide) (fun hk => ?_) hb
  · cases Ad with
    | none => exact wp_value (v := .bool true) (w' := w) (by simp only [execOp, he]; kernel_rfl) h
    | some ad => exact wp_value (v := .bool false) (w' := w) (by simp only [execOp, he]; kernel_rfl) h
  · have : l = [] := List.length_eq_zero_iff.1 hk
    subst this
    have ha : bodyR prog (tabS []) [(0, [0]), (1, [0, 16]), (2, [8]), (3, [8])] 0 f141 (sub (bodyOf f141) [1, 0, 1, 0]) [aT (eB [])] = some ([(false, [.tr true (.arr 1 0 fun _ _ => .hole)])], [(false, [])]) := by kernel_rfl
    exact ha
def i_clH : Nat := 142
def ok_clH (l : List Hd) : Prop := l.length ≤ LM
def ea_clH (l : List Hd) : List Arg := [aT (eL 2 Hd.cs l)]
def f_clH (l : List Hd) : List Hd := l
noncomputable def e_clH : Ent := ent [] ok_clH ea_clH (fun l => erT 1 (eL 2 Hd.cs l)) f_clH
theorem ea_clH_inj (x y : List Hd) (h : ea_clH x = ea_clH y) : x = y := by
  simp only [ea_clH, aT, List.cons.injEq, Prod.mk.injEq, true_and, and_true, C.tr.injEq] at h
  exact eL_inj Hd.cs_inj h
theorem dm_clH {l : List Hd} (h : ok_clH l) : dom ok_clH ea_clH [(0, false, [C.tr false (T.arr 2 l.length (atL Hd.cs l))])] = true := dom_ea (ea := ea_clH) (x := l) h
theorem iv_clH {l : List Hd} (h : ok_clH l) : inv ok_clH ea_clH [(0, false, [C.tr false (T.arr 2 l.length (atL Hd.cs l))])] = l := inv_ea ea_clH_inj (x := l) h
theorem d_clH (l : List Hd) : f_clH l = l := rfl
theorem br_clH (l : List Hd) : bodyR prog (tabS []) [(0, [0]), (1, [0, 16]), (2, [8]), (3, [8])] 0 f142 (sub (bodyOf f142) [1, 1]) [aT (eL 2 Hd.cs l)] = (
 gd (((0 + l.length) * 16).ble 70368744177664 && (0 + l.length).ble 70368744177664) <|
 gd ((0 + l.length).ble (0 + l.length) && true) <|
 gd ((0 + l.length).ble (0 + l.length) && true) <|
 some ([(false, [.tr true (.arr (2) (0 + l.length) (appF 0 (fun j k => T.hole) (plainF (atL Hd.cs l))))])], [(false, [])])) := by kernel_rfl
theorem s_clH : EntOk prog i_clH e_clH := ent_ok ea_clH_inj fun l hl => by
  have hlm := lm
  have hl' : l.length ≤ LM := hl
  have hb := br_clH l
  simp only [Nat.zero_add, ble_d, Nat.le_refl, decide_true, Bool.and_true, gd_true, app0, plain_Hd] at hb
  rw [decide_eq_true (show l.length * 16 ≤ 70368744177664 by omega), decide_eq_true (show l.length ≤ 70368744177664 by omega)] at hb
  simp only [Bool.and_true, gd_true] at hb
  refine clone_sound (φ := tabS []) tabS_nil mixed (kp := [(0, [0]), (1, [0, 16]), (2, [8]), (3, [8])]) (n := 0) func142 (name_ok (by kernel_rfl)) (hc := rfl) rfl rfl rfl (fun a w K Q h => wp_value rfl h) (fun a w K Q h => wp_value rfl h) (fun a w K Q Ad k c he h => ?_) (by decide) (fun hk => ?_) hb
  · cases Ad with
    | none => exact wp_value (v := .bool true) (w' := w) (by simp only [execOp, he]; kernel_rfl) h
    | some ad => exact wp_value (v := .bool false) (w' := w) (by simp only [execOp, he]; kernel_rfl) h
  · have : l = [] := List.length_eq_zero_iff.1 hk
    subst this
    have ha : bodyR prog (tabS []) [(0, [0]), (1, [0, 16]), (2, [8]), (3, [8])] 0 f142 (sub (bodyOf f142) [1, 0, 1, 0]) [aT (eL 2 Hd.cs [])] = some ([(false, [.tr true (.arr 2 0 fun _ _ => .hole)])], [(false, [])]) := by kernel_rfl
    exact ha
def i_clI : Nat := 105
def ok_clI (l : List Int) : Prop := l.length ≤ LM
def ea_clI (l : List Int) : List Arg := [aT (eI l)]
def f_clI (l : List Int) : List Int := l
noncomputable def e_clI : Ent := ent [] ok_clI ea_clI (fun l => erT 1 (eI l)) f_clI
theorem ea_clI_inj (x y : List Int) (h : ea_clI x = ea_clI y) : x = y := by
  simp only [ea_clI, aT, List.cons.injEq, Prod.mk.injEq, true_and, and_true, C.tr.injEq] at h
  exact eI_inj h
theorem dm_clI {l : List Int} (h : ok_clI l) : dom ok_clI ea_clI [(0, false, [C.tr false (T.arr 1 l.length (atL rowI l))])] = true := dom_ea (ea := ea_clI) (x := l) h
theorem iv_clI {l : List Int} (h : ok_clI l) : inv ok_clI ea_clI [(0, false, [C.tr false (T.arr 1 l.length (atL rowI l))])] = l := inv_ea ea_clI_inj (x := l) h
theorem d_clI (l : List Int) : f_clI l = l := rfl
theorem br_clI (l : List Int) : bodyR prog (tabS []) [(0, [0]), (1, [0, 16]), (2, [8]), (3, [8])] 0 f105 (sub (bodyOf f105) [1, 1]) [aT (eI l)] = (
 gd (((0 + l.length) * 8).ble 70368744177664 && (0 + l.length).ble 70368744177664) <|
 gd ((0 + l.length).ble (0 + l.length) && true) <|
 gd ((0 + l.length).ble (0 + l.length) && true) <|
 some ([(false, [.tr true (.arr (1) (0 + l.length) (appF 0 (fun j k => T.hole) (plainF (atL rowI l))))])], [(false, [])])) := by kernel_rfl
theorem s_clI : EntOk prog i_clI e_clI := ent_ok ea_clI_inj fun l hl => by
  have hlm := lm
  have hl' : l.length ≤ LM := hl
  have hb := br_clI l
  simp only [Nat.zero_add, ble_d, Nat.le_refl, decide_true, Bool.and_true, gd_true, app0, plain_I] at hb
  rw [decide_eq_true (show l.length * 8 ≤ 70368744177664 by omega), decide_eq_true (show l.length ≤ 70368744177664 by omega)] at hb
  simp only [Bool.and_true, gd_true] at hb
  refine clone_sound (φ := tabS []) tabS_nil mixed (kp := [(0, [0]), (1, [0, 16]), (2, [8]), (3, [8])]) (n := 0) func105 (name_ok (by kernel_rfl)) (hc := rfl) rfl rfl rfl (fun a w K Q h => wp_value rfl h) (fun a w K Q h => wp_value rfl h) (fun a w K Q Ad k c he h => ?_) (by decide) (fun hk => ?_) hb
  · cases Ad with
    | none => exact wp_value (v := .bool true) (w' := w) (by simp only [execOp, he]; kernel_rfl) h
    | some ad => exact wp_value (v := .bool false) (w' := w) (by simp only [execOp, he]; kernel_rfl) h
  · have : l = [] := List.length_eq_zero_iff.1 hk
    subst this
    have ha : bodyR prog (tabS []) [(0, [0]), (1, [0, 16]), (2, [8]), (3, [8])] 0 f105 (sub (bodyOf f105) [1, 0, 1, 0]) [aT (eI [])] = some ([(false, [.tr true (.arr 1 0 fun _ _ => .hole)])], [(false, [])]) := by kernel_rfl
    exact ha
end Go.Mach.F
section
set_option maxRecDepth 100000
set_option maxHeartbeats 40000000
namespace Go.Mach.F
open Go Go.Mach Go.Proofs.Try
--=set_option maxRecDepth 100000
def ok_iRoom (x : Rm) : Prop := ok_HdS x.kids ∧ ok_SfS x.things ∧ ok_LI x.tags
def ea_iRoom (x : Rm) : List Arg := [aR x.cs]
def f_iRoom (x : Rm) : Rm := x
noncomputable def e_iRoom : Ent := ent [] ok_iRoom ea_iRoom (fun r => erR 1 r.cs) f_iRoom
theorem ea_iRoom_inj (x y : Rm) (h : ea_iRoom x = ea_iRoom y) : x = y := by
  simp only [ea_iRoom, List.cons.injEq, and_true, true_and] at h
  exact Rm.cs_ext (aR_inj h)
theorem dm_iRoom {r : Rm} (h : ok_iRoom r) : dom ok_iRoom ea_iRoom [(0, true, [C.tr false (T.int IntKind.i64 r.h.slot), C.tr false (T.int IntKind.i64 r.h.gen), C.tr false (T.int IntKind.i64 r.up.slot), C.tr false (T.int IntKind.i64 r.up.gen), C.tr false (T.arr 2 r.kids.length (atL Hd.cs r.kids)), C.tr false (T.int IntKind.i64 r.ep), C.tr false (T.int IntKind.i64 r.chunks), C.tr false (T.bool r.cur), C.tr false (T.int IntKind.i64 r.bump), C.tr false (T.arr 1 r.things.length (atL Sf.cs r.things)), C.tr false (T.arr 1 r.tags.length (atL rowI r.tags))])] = true := dom_ea (ea := ea_iRoom) (x := r) h
theorem iv_iRoom {r : Rm} (h : ok_iRoom r) : inv ok_iRoom ea_iRoom [(0, true, [C.tr false (T.int IntKind.i64 r.h.slot), C.tr false (T.int IntKind.i64 r.h.gen), C.tr false (T.int IntKind.i64 r.up.slot), C.tr false (T.int IntKind.i64 r.up.gen), C.tr false (T.arr 2 r.kids.length (atL Hd.cs r.kids)), C.tr false (T.int IntKind.i64 r.ep), C.tr false (T.int IntKind.i64 r.chunks), C.tr false (T.bool r.cur), C.tr false (T.int IntKind.i64 r.bump), C.tr false (T.arr 1 r.things.length (atL Sf.cs r.things)), C.tr false (T.arr 1 r.tags.length (atL rowI r.tags))])] = r := inv_ea ea_iRoom_inj (x := r) h
theorem d_iRoom (r : Rm) : f_iRoom r = r := rfl
def i_iRoom : Nat := 106
noncomputable abbrev F_iRoom : Func := f106
def kp_iRoom : List (Nat × List Nat) := [(0, [4, 5, 8, 9, 128]), (1, [4, 5, 8, 9, 12, 128]), (2, [4, 5, 8, 9, 12, 28, 32, 36, 40, 128]), (3, [4, 5, 8, 9, 12, 28, 32, 36, 40, 44, 128]), (4, [4, 5, 8, 9, 12, 20, 21, 28, 32, 36, 40, 48, 52, 128]), (5, [4, 5, 8, 9, 12, 28, 32, 36, 40, 128]), (6, [4, 5, 8, 9, 12, 28, 32, 36, 40, 128]), (7, [4, 5, 8, 9, 128]), (8, [4, 5, 8, 9, 128])]
def ts_iRoom : List Nat := [0]
def st_iRoom_1 (r : Rm) (nx12 : Nat) (fx12 : Nat → Nat → T) (x40 : Int) : St := [(4, ⟨z0, [(false, [(C.pt (Pt.ptr 5 0 [] 11 0 0))])]⟩), (5, ⟨z0, [(true, [.tr true (T.int IntKind.i64 r.h.1), .tr true (T.int IntKind.i64 r.h.2), .tr true (T.int IntKind.i64 r.up.1), .tr true (T.int IntKind.i64 r.up.2), .tr false (eL 2 Hd.cs r.3), .tr true (T.int IntKind.i64 r.4), .tr true (T.int IntKind.i64 r.5), .tr true (T.bool r.6), .tr true (T.int IntKind.i64 r.7), .tr false (eL 1 Sf.cs r.8), .tr false (eL 1 rowI r.9)])]⟩), (8, ⟨z0, [(false, [(C.pt (Pt.ptr 9 0 [] 11 0 0))])]⟩), (9, ⟨z0, [(true, [.tr true (T.int IntKind.i64 0), .tr true (T.int IntKind.i64 0), .tr true (T.int IntKind.i64 0), .tr true (T.int IntKind.i64 0), .tr true (.arr (2) (0) (fun x x_1 => T.hole)), .tr true (T.int IntKind.i64 0), .tr true (T.int IntKind.i64 0), .tr true (T.bool false), .tr true (T.int IntKind.i64 0), .tr true (.arr (1) (0) (fun x x_1 => T.hole)), .tr true (.arr (1) (0) (fun x x_1 => T.hole))])]⟩), (12, ⟨z0, [(false, [.tr true (.arr (1) (nx12) (fx12))])]⟩), (28, ⟨z0, [(false, [(C.pt (Pt.ptr 5 0 [] 11 0 9))])]⟩), (32, ⟨z0, [(false, [.tr false (eL 1 Sf.cs r.8)])]⟩), (36, ⟨z0, [(false, [.tr true (T.int IntKind.i64 (↑r.8.length : Int))])]⟩), (40, ⟨z0, [(false, [.tr true (T.int IntKind.i64 x40)])]⟩)]
def ex_iRoom_1_1 (r : Rm) (nx12 : Nat) (fx12 : Nat → Nat → T) (x40 : Int) : St := [(4, ⟨z0, [(false, [(C.pt (Pt.ptr 5 0 [] 11 0 0))])]⟩), (5, ⟨z0, [(true, [.tr true (T.int IntKind.i64 r.h.1), .tr true (T.int IntKind.i64 r.h.2), .tr true (T.int IntKind.i64 r.up.1), .tr true (T.int IntKind.i64 r.up.2), .tr false (eL 2 Hd.cs r.3), .tr true (T.int IntKind.i64 r.4), .tr true (T.int IntKind.i64 r.5), .tr true (T.bool r.6), .tr true (T.int IntKind.i64 r.7), .tr false (eL 1 Sf.cs r.8), .tr false (eL 1 rowI r.9)])]⟩), (8, ⟨z0, [(false, [(C.pt (Pt.ptr 9 0 [] 11 0 0))])]⟩), (9, ⟨z0, [(true, [.tr true (T.int IntKind.i64 0), .tr true (T.int IntKind.i64 0), .tr true (T.int IntKind.i64 0), .tr true (T.int IntKind.i64 0), .tr true (.arr (2) (0) (fun x x_1 => T.hole)), .tr true (T.int IntKind.i64 0), .tr true (T.int IntKind.i64 0), .tr true (T.bool false), .tr true (T.int IntKind.i64 0), .tr true (.arr (1) (0) (fun x x_1 => T.hole)), .tr true (.arr (1) (0) (fun x x_1 => T.hole))])]⟩), (12, ⟨z0, [(false, [.tr true (.arr (1) (nx12) (fx12))])]⟩), (28, ⟨z0, [(false, [(C.pt (Pt.ptr 5 0 [] 11 0 9))])]⟩), (32, ⟨z0, [(false, [.tr false (eL 1 Sf.cs r.8)])]⟩), (36, ⟨z0, [(false, [.tr true (T.int IntKind.i64 (↑r.8.length : Int))])]⟩), (40, ⟨z0, [(false, [.tr true (T.int IntKind.i64 x40)])]⟩), (44, ⟨z0, []⟩)]
theorem round_iRoom_1 (r : Rm) (nx12 : Nat) (fx12 : Nat → Nat → T) (x40 : Int) (n : Nat) (K : Ex → St → Res) : roundAt prog (tabS [(i_clB, e_clB), (i_clH, e_clH), (i_clI, e_clI)]) kp_iRoom F_iRoom [1, 1, 0, 1, 0] n (st_iRoom_1 r nx12 fx12 x40) K = (
 bif decide (x40 < (↑r.8.length : Int)) then
  gd (decide (0 ≤ x40) && (x40.toNat.blt r.8.length && true)) <|
  gd ((atL Sf.cs r.8 x40.toNat 0).isArr && (atL Sf.cs r.8 x40.toNat 0).wd.beq 1) <|
  entK ok_clB ea_clB (f_clB) [(0, false, [C.tr false (T.arr 1 (atL Sf.cs r.8 x40.toNat 0).ln (atL Sf.cs r.8 x40.toNat 0).fn)])] fun (r1 : List UInt8) =>
  gd (r1.length.ble r1.length && true) <|
  gd (r1.length.ble r1.length && true) <|
  gd (nx12.ble nx12 && true) <|
  gd (((nx12 + 1) * 24).ble 70368744177664 && (nx12 + 1).ble 70368744177664) <|
  gd ((nx12 + 1).ble (nx12 + 1) && true) <|
  K .normal (st_iRoom_1 r (nx12 + 1) (appF nx12 fx12 (rowsT [[T.arr 1 r1.length (atL rowB r1)]])) (IntKind.i64.wrap (x40 + 1)))
 else
 K (.exit 0) (ex_iRoom_1_1 r nx12 fx12 x40)) := by kernel_rfl
theorem post_iRoom_1_1 (r : Rm) (nx12 : Nat) (fx12 : Nat → Nat → T) (x40 : Int) (n : Nat) : contAt prog (tabS [(i_clB, e_clB), (i_clH, e_clH), (i_clI, e_clI)]) kp_iRoom F_iRoom ts_iRoom [1, 1, 0, 1, 0] [] n (.exit 0) (ex_iRoom_1_1 r nx12 fx12 x40) = (
 entK ok_clH ea_clH (f_clH) [(0, false, [C.tr false (eL 2 Hd.cs r.3)])] fun (r2 : List Hd) =>
 entK ok_clI ea_clI (f_clI) [(0, false, [C.tr false (eL 1 rowI r.9)])] fun (r3 : List Int) =>
 gd (r2.length.ble r2.length && true) <|
 gd (nx12.ble nx12 && true) <|
 gd (r3.length.ble r3.length && true) <|
 gd (r2.length.ble r2.length && true) <|
 gd (nx12.ble nx12 && true) <|
 gd (r3.length.ble r3.length && true) <|
 gd (r2.length.ble r2.length && true) <|
 gd (nx12.ble nx12 && true) <|
 gd (r3.length.ble r3.length && true) <|
 some ([(true, [.tr true (T.int IntKind.i64 r.h.1), .tr true (T.int IntKind.i64 r.h.2), .tr true (T.int IntKind.i64 r.up.1), .tr true (T.int IntKind.i64 r.up.2), .tr true (.arr (2) (r2.length) ((eL 2 Hd.cs r2).fn)), .tr true (T.int IntKind.i64 r.4), .tr true (T.int IntKind.i64 r.5), .tr true (T.bool r.6), .tr true (T.int IntKind.i64 r.7), .tr true (.arr (1) (nx12) (fx12)), .tr true (.arr (1) (r3.length) (atL rowI r3))])], [(false, [])])) := by kernel_rfl
theorem pre_iRoom (r : Rm) (n : Nat) : body prog (tabS [(i_clB, e_clB), (i_clH, e_clH), (i_clI, e_clI)]) kp_iRoom n F_iRoom [aR r.cs] = (
 loopAt prog (tabS [(i_clB, e_clB), (i_clH, e_clH), (i_clI, e_clI)]) kp_iRoom F_iRoom [1, 1, 0, 1, 0] n n (st_iRoom_1 r (0) (rowsT []) (0)) (contAt prog (tabS [(i_clB, e_clB), (i_clH, e_clH), (i_clI, e_clI)]) kp_iRoom F_iRoom ts_iRoom [1, 1, 0, 1, 0] [] n)) := by kernel_rfl
def ok_sRoom (x : Rm) : Prop := ok_HdS x.kids ∧ ok_SfS x.things ∧ ok_LI x.tags
def ea_sRoom (x : Rm) : List Arg := [aR x.cs]
def f_sRoom (x : Rm) : Rm := x
noncomputable def e_sRoom : Ent := ent [] ok_sRoom ea_sRoom (fun r => erR 1 r.cs) f_sRoom
theorem ea_sRoom_inj (x y : Rm) (h : ea_sRoom x = ea_sRoom y) : x = y := by
  simp only [ea_sRoom, List.cons.injEq, and_true, true_and] at h
  exact Rm.cs_ext (aR_inj h)
theorem dm_sRoom {r : Rm} (h : ok_sRoom r) : dom ok_sRoom ea_sRoom [(0, true, [C.tr false (T.int IntKind.i64 r.h.slot), C.tr false (T.int IntKind.i64 r.h.gen), C.tr false (T.int IntKind.i64 r.up.slot), C.tr false (T.int IntKind.i64 r.up.gen), C.tr false (T.arr 2 r.kids.length (atL Hd.cs r.kids)), C.tr false (T.int IntKind.i64 r.ep), C.tr false (T.int IntKind.i64 r.chunks), C.tr false (T.bool r.cur), C.tr false (T.int IntKind.i64 r.bump), C.tr false (T.arr 1 r.things.length (atL Sf.cs r.things)), C.tr false (T.arr 1 r.tags.length (atL rowI r.tags))])] = true := dom_ea (ea := ea_sRoom) (x := r) h
theorem iv_sRoom {r : Rm} (h : ok_sRoom r) : inv ok_sRoom ea_sRoom [(0, true, [C.tr false (T.int IntKind.i64 r.h.slot), C.tr false (T.int IntKind.i64 r.h.gen), C.tr false (T.int IntKind.i64 r.up.slot), C.tr false (T.int IntKind.i64 r.up.gen), C.tr false (T.arr 2 r.kids.length (atL Hd.cs r.kids)), C.tr false (T.int IntKind.i64 r.ep), C.tr false (T.int IntKind.i64 r.chunks), C.tr false (T.bool r.cur), C.tr false (T.int IntKind.i64 r.bump), C.tr false (T.arr 1 r.things.length (atL Sf.cs r.things)), C.tr false (T.arr 1 r.tags.length (atL rowI r.tags))])] = r := inv_ea ea_sRoom_inj (x := r) h
theorem d_sRoom (r : Rm) : f_sRoom r = r := rfl
def i_sRoom : Nat := 101
noncomputable abbrev F_sRoom : Func := f101
def kp_sRoom : List (Nat × List Nat) := [(0, [4, 5, 8, 9, 12, 13, 20, 156]), (1, [4, 5, 8, 9, 12, 13, 20, 156]), (2, [4, 5, 8, 9, 12, 13, 20, 156]), (3, [4, 5, 8, 9, 12, 13, 20, 156]), (4, [4, 5, 8, 9, 12, 13, 20, 156]), (5, [4, 5, 8, 9, 12, 13, 16, 20, 156]), (6, [4, 5, 8, 9, 12, 13, 16, 20, 88, 156]), (7, [4, 5, 8, 9, 12, 13, 16, 20, 156]), (8, [4, 5, 8, 9, 12, 13, 16, 20, 156]), (9, [4, 5, 8, 9, 12, 13, 20, 156])]
def ts_sRoom : List Nat := [0]
def st_sRoom_1 (r : Rm) (nx13_9 : Nat) (fx13_9 : Nat → Nat → T) (x16 : Int) : St := [(4, ⟨z0, [(false, [(C.pt (Pt.ptr 5 0 [] 11 0 0))])]⟩), (5, ⟨z0, [(true, [.tr true (T.int IntKind.i64 r.h.1), .tr true (T.int IntKind.i64 r.h.2), .tr true (T.int IntKind.i64 r.up.1), .tr true (T.int IntKind.i64 r.up.2), .tr false (eL 2 Hd.cs r.3), .tr true (T.int IntKind.i64 r.4), .tr true (T.int IntKind.i64 r.5), .tr true (T.bool r.6), .tr true (T.int IntKind.i64 r.7), .tr false (eL 1 Sf.cs r.8), .tr false (eL 1 rowI r.9)])]⟩), (8, ⟨z0, [(false, [(C.pt (Pt.ptr 9 0 [] 11 0 0))])]⟩), (9, ⟨z0, [(true, [.tr true (T.int IntKind.i64 0), .tr true (T.int IntKind.i64 0), .tr true (T.int IntKind.i64 0), .tr true (T.int IntKind.i64 0), .tr true (.arr (2) (0) (fun x x_1 => T.hole)), .tr true (T.int IntKind.i64 0), .tr true (T.int IntKind.i64 0), .tr true (T.bool false), .tr true (T.int IntKind.i64 0), .tr true (.arr (1) (0) (fun x x_1 => T.hole)), .tr true (.arr (1) (0) (fun x x_1 => T.hole))])]⟩), (12, ⟨z0, [(false, [(C.pt (Pt.ptr 13 0 [] 11 0 0))])]⟩), (13, ⟨z0, [(true, [.tr true (T.int IntKind.i64 r.h.1), .tr true (T.int IntKind.i64 r.h.2), .tr true (T.int IntKind.i64 r.up.1), .tr true (T.int IntKind.i64 r.up.2), .tr true (.arr (2) (0 + r.3.length) (appF 0 (rowsT []) (plainF (atL Hd.cs r.3)))), .tr true (T.int IntKind.i64 r.4), .tr true (T.int IntKind.i64 r.5), .tr true (T.bool r.6), .tr true (T.int IntKind.i64 r.7), .tr true (.arr (1) (nx13_9) (fx13_9)), .tr true (.arr (1) (0 + r.9.length) (appF 0 (rowsT []) (plainF (atL rowI r.9))))])]⟩), (16, ⟨z0, [(false, [.tr true (T.int IntKind.i64 x16)])]⟩), (20, ⟨z0, [(true, [.tr true (T.int IntKind.i64 r.h.1), .tr true (T.int IntKind.i64 r.h.2), .tr true (T.int IntKind.i64 r.up.1), .tr true (T.int IntKind.i64 r.up.2), .tr false (eL 2 Hd.cs r.3), .tr true (T.int IntKind.i64 r.4), .tr true (T.int IntKind.i64 r.5), .tr true (T.bool r.6), .tr true (T.int IntKind.i64 r.7), .tr false (eL 1 Sf.cs r.8), .tr false (eL 1 rowI r.9)])]⟩)]
def ex_sRoom_1_1 (r : Rm) (nx13_9 : Nat) (fx13_9 : Nat → Nat → T) (x16 : Int) : St := [(4, ⟨z0, [(false, [(C.pt (Pt.ptr 5 0 [] 11 0 0))])]⟩), (5, ⟨z0, [(true, [.tr true (T.int IntKind.i64 r.h.1), .tr true (T.int IntKind.i64 r.h.2), .tr true (T.int IntKind.i64 r.up.1), .tr true (T.int IntKind.i64 r.up.2), .tr false (eL 2 Hd.cs r.3), .tr true (T.int IntKind.i64 r.4), .tr true (T.int IntKind.i64 r.5), .tr true (T.bool r.6), .tr true (T.int IntKind.i64 r.7), .tr false (eL 1 Sf.cs r.8), .tr false (eL 1 rowI r.9)])]⟩), (8, ⟨z0, [(false, [(C.pt (Pt.ptr 9 0 [] 11 0 0))])]⟩), (9, ⟨z0, [(true, [.tr true (T.int IntKind.i64 0), .tr true (T.int IntKind.i64 0), .tr true (T.int IntKind.i64 0), .tr true (T.int IntKind.i64 0), .tr true (.arr (2) (0) (fun x x_1 => T.hole)), .tr true (T.int IntKind.i64 0), .tr true (T.int IntKind.i64 0), .tr true (T.bool false), .tr true (T.int IntKind.i64 0), .tr true (.arr (1) (0) (fun x x_1 => T.hole)), .tr true (.arr (1) (0) (fun x x_1 => T.hole))])]⟩), (12, ⟨z0, [(false, [(C.pt (Pt.ptr 13 0 [] 11 0 0))])]⟩), (13, ⟨z0, [(true, [.tr true (T.int IntKind.i64 r.h.1), .tr true (T.int IntKind.i64 r.h.2), .tr true (T.int IntKind.i64 r.up.1), .tr true (T.int IntKind.i64 r.up.2), .tr true (.arr (2) (0 + r.3.length) (appF 0 (rowsT []) (plainF (atL Hd.cs r.3)))), .tr true (T.int IntKind.i64 r.4), .tr true (T.int IntKind.i64 r.5), .tr true (T.bool r.6), .tr true (T.int IntKind.i64 r.7), .tr true (.arr (1) (nx13_9) (fx13_9)), .tr true (.arr (1) (0 + r.9.length) (appF 0 (rowsT []) (plainF (atL rowI r.9))))])]⟩), (16, ⟨z0, [(false, [.tr true (T.int IntKind.i64 x16)])]⟩), (20, ⟨z0, [(true, [.tr true (T.int IntKind.i64 r.h.1), .tr true (T.int IntKind.i64 r.h.2), .tr true (T.int IntKind.i64 r.up.1), .tr true (T.int IntKind.i64 r.up.2), .tr false (eL 2 Hd.cs r.3), .tr true (T.int IntKind.i64 r.4), .tr true (T.int IntKind.i64 r.5), .tr true (T.bool r.6), .tr true (T.int IntKind.i64 r.7), .tr false (eL 1 Sf.cs r.8), .tr false (eL 1 rowI r.9)])]⟩), (88, ⟨z0, []⟩)]
theorem round_sRoom_1 (r : Rm) (nx13_9 : Nat) (fx13_9 : Nat → Nat → T) (x16 : Int) (n : Nat) (K : Ex → St → Res) : roundAt prog (tabS []) kp_sRoom F_sRoom [1, 1, 1, 1, 1, 0, 1, 0] n (st_sRoom_1 r nx13_9 fx13_9 x16) K = (
 bif decide (x16 < (↑r.8.length : Int)) then
  gd (decide (0 ≤ x16) && (x16.toNat.blt r.8.length && true)) <|
  gd ((atL Sf.cs r.8 x16.toNat 0).isArr && (atL Sf.cs r.8 x16.toNat 0).wd.beq 1) <|
  gd (((0 + (atL Sf.cs r.8 x16.toNat 0).ln) * 1).ble 70368744177664 &&
  (0 + (atL Sf.cs r.8 x16.toNat 0).ln).ble 70368744177664) <|
  gd ((0 + (atL Sf.cs r.8 x16.toNat 0).ln).ble (0 + (atL Sf.cs r.8 x16.toNat 0).ln) && true) <|
  gd ((0 + (atL Sf.cs r.8 x16.toNat 0).ln).ble (0 + (atL Sf.cs r.8 x16.toNat 0).ln) && true) <|
  gd (nx13_9.ble nx13_9 && true) <|
  gd (((nx13_9 + 1) * 24).ble 70368744177664 && (nx13_9 + 1).ble 70368744177664) <|
  gd ((nx13_9 + 1).ble (nx13_9 + 1) && true) <|
  K .normal (st_sRoom_1 r (nx13_9 + 1) (appF nx13_9 fx13_9
  (rowsT [[T.arr 1 (0 + (atL Sf.cs r.8 x16.toNat 0).ln) (appF 0 (rowsT []) (plainF (atL Sf.cs r.8 x16.toNat 0).fn))]])) (IntKind.i64.wrap (x16 + 1)))
 else
 K (.exit 0) (ex_sRoom_1_1 r nx13_9 fx13_9 x16)) := by kernel_rfl
theorem post_sRoom_1_1 (r : Rm) (nx13_9 : Nat) (fx13_9 : Nat → Nat → T) (x16 : Int) (n : Nat) : contAt prog (tabS []) kp_sRoom F_sRoom ts_sRoom [1, 1, 1, 1, 1, 0, 1, 0] [] n (.exit 0) (ex_sRoom_1_1 r nx13_9 fx13_9 x16) = (
 gd ((0 + r.3.length).ble (0 + r.3.length) && true) <|
 gd (nx13_9.ble nx13_9 && true) <|
 gd ((0 + r.9.length).ble (0 + r.9.length) && true) <|
 gd ((0 + r.3.length).ble (0 + r.3.length) && true) <|
 gd (nx13_9.ble nx13_9 && true) <|
 gd ((0 + r.9.length).ble (0 + r.9.length) && true) <|
 some ([(true, [.tr true (T.int IntKind.i64 r.h.1), .tr true (T.int IntKind.i64 r.h.2), .tr true (T.int IntKind.i64 r.up.1), .tr true (T.int IntKind.i64 r.up.2), .tr true (.arr (2) (0 + r.3.length) (appF 0 (rowsT []) (plainF (atL Hd.cs r.3)))), .tr true (T.int IntKind.i64 r.4), .tr true (T.int IntKind.i64 r.5), .tr true (T.bool r.6), .tr true (T.int IntKind.i64 r.7), .tr true (.arr (1) (nx13_9) (fx13_9)), .tr true (.arr (1) (0 + r.9.length) (appF 0 (rowsT []) (plainF (atL rowI r.9))))])], [(false, [])])) := by kernel_rfl
theorem pre_sRoom (r : Rm) (n : Nat) : body prog (tabS []) kp_sRoom n F_sRoom [aR r.cs] = (
 gd (((0 + r.3.length) * 16).ble 70368744177664 && (0 + r.3.length).ble 70368744177664) <|
 gd ((0 + r.3.length).ble (0 + r.3.length) && true) <|
 gd (((0 + r.9.length) * 8).ble 70368744177664 && (0 + r.9.length).ble 70368744177664) <|
 gd ((0 + r.9.length).ble (0 + r.9.length) && true) <|
 loopAt prog (tabS []) kp_sRoom F_sRoom [1, 1, 1, 1, 1, 0, 1, 0] n n (st_sRoom_1 r (0) (rowsT []) (0)) (contAt prog (tabS []) kp_sRoom F_sRoom ts_sRoom [1, 1, 1, 1, 1, 0, 1, 0] [] n)) := by kernel_rfl
end Go.Mach.F
end
namespace Go.Mach.F
open Go Go.Mach Go.Proofs.Try
theorem rowsT0 {α : Type} (row : α → List T) : rowsT [] = atL row ([] : List α) := by
  funext j k
  simp [rowsT, atL]
theorem app1g {α : Type} (row : α → List T) (out : List α) (x : α) : appF out.length (atL row out) (rowsT [row x]) = atL row (out ++ [x]) := by
  funext j k
  unfold appF
  rw [blt_d, Bool.cond_decide]
  by_cases h : j < out.length
  · rw [if_pos h]
    unfold atL
    rw [List.getElem?_append_left h]
  · rw [if_neg h]
    unfold atL
    rw [List.getElem?_append_right (by omega)]
    obtain ⟨d, hd⟩ : ∃ d, d = j - out.length := ⟨_, rfl⟩
    rw [← hd]
    cases d with
    | zero => rfl
    | succ d => simp [rowsT]
theorem take_app {α : Type} {l : List α} {i : Nat} {x : α} (row : α → List T) (h : l[i]? = some x) : appF i (atL row (l.take i)) (rowsT [row x]) = atL row (l.take (i + 1)) := by
  have hi : i < l.length := (List.getElem?_eq_some_iff.1 h).1
  have := app1g row (l.take i) x
  rw [List.length_take, show min i l.length = i by omega] at this
  rw [this, List.take_add_one, h]
  rfl
theorem body_iRoom (r : Rm) (h : ok_iRoom r) : body prog (tabS [(i_clB, e_clB), (i_clH, e_clH), (i_clI, e_clI)]) kp_iRoom (r.things.length + 1) F_iRoom (ea_iRoom r) = some (erR 1 (f_iRoom r).cs) := by
  have hlm := lm
  obtain ⟨h0, h1, h2⟩ : ok_HdS r.kids ∧ ok_SfS r.things ∧ ok_LI r.tags := h
  have hl : r.things.length ≤ LM := h1.1
  unfold ea_iRoom f_iRoom
  rw [pre_iRoom]
  have hst : st_iRoom_1 r 0 (rowsT []) 0 = (fun i : Nat => st_iRoom_1 r i (atL Sf.cs (r.things.take i)) (i : Nat)) 0 := by
    rw [rowsT0 Sf.cs]
    rfl
  rw [hst, forLoop r.things.length (fun i : Nat => st_iRoom_1 r i (atL Sf.cs (r.things.take i)) (i : Nat)) (ex_iRoom_1_1 r r.things.length (atL Sf.cs r.things) r.things.length) 0 (fun i K hi => ?_) (fun K => ?_) _ (Nat.le_refl _)]
  · have c1 : ok_clH r.kids := h0.1
    have c2 : ok_clI r.tags := h2
    rw [post_iRoom_1_1]
    simp only [lt_d, ge0_d, Int.toNat_natCast, blt_d, ble_self, beq_self, decide_true, cond_true, Bool.and_self, Bool.and_true, Bool.true_and, gd_true, Nat.zero_add, List.getD_cons_zero, List.getD_cons_succ, isI_int, toI_int, isB_bool, toB_bool, eL_T, arr_ln, arr_fn, arr_wd, arr_is, arr_get, eL_T, ble_d, Nat.le_refl, entK_of (dm_clH c1) (iv_clH c1), d_clH, entK_of (dm_clI c2) (iv_clI c2), d_clI]
    rfl
  · have hx := List.getElem?_eq_getElem hi
    obtain ⟨x, hxe⟩ : ∃ x, x = r.things[i] := ⟨_, rfl⟩
    rw [← hxe] at hx
    have c0 : ok_clB x.b := h1.2 _ (List.mem_of_getElem? hx)
    rw [round_iRoom_1, ← take_app Sf.cs hx]
    have hs : (i + 1) * 24 ≤ 70368744177664 := by omega
    have hs2 : i + 1 ≤ 70368744177664 := by omega
    simp (disch := omega) only [lt_d, ge0_d, Int.toNat_natCast, blt_d, ble_self, beq_self, decide_true, cond_true, Bool.and_self, Bool.and_true, Bool.true_and, gd_true, Nat.zero_add, List.getD_cons_zero, List.getD_cons_succ, isI_int, toI_int, isB_bool, toB_bool, eL_T, arr_ln, arr_fn, arr_wd, arr_is, arr_get, eL_T, ble_d, Nat.le_refl, hi, hs, hs2, atL_of hx, Sf.cs, wrapS, entK_of (dm_clB c0) (iv_clB c0), d_clB]
  · rw [round_iRoom_1]
    simp only [lt_d, Nat.lt_irrefl, decide_false, cond_false, List.take_length]
theorem s_iRoom : EntOk prog i_iRoom e_iRoom := ent_ok ea_iRoom_inj fun x hx =>
  body_sound (φ := (tabS [(i_clB, e_clB), (i_clH, e_clH), (i_clI, e_clI)])) (tabS_cons s_clB (tabS_cons s_clH (tabS_cons s_clI tabS_nil))) mixed (kp := kp_iRoom) (n := x.things.length + 1) func106 (c := bodyOf F_iRoom) (by kernel_rfl) (body_iRoom x hx) (name_ok (by kernel_rfl))
theorem body_sRoom (r : Rm) (h : ok_sRoom r) : body prog (tabS []) kp_sRoom (r.things.length + 1) F_sRoom (ea_sRoom r) = some (erR 1 (f_sRoom r).cs) := by
  have hlm := lm
  obtain ⟨h0, h1, h2⟩ : ok_HdS r.kids ∧ ok_SfS r.things ∧ ok_LI r.tags := h
  have hl : r.things.length ≤ LM := h1.1
  have hk : r.kids.length ≤ LM := h0.1
  have ht : r.tags.length ≤ LM := h2
  unfold ea_sRoom f_sRoom
  rw [pre_sRoom]
  have q1 : r.kids.length * 16 ≤ 70368744177664 := by omega
  have q2 : r.kids.length ≤ 70368744177664 := by omega
  have q3 : r.tags.length * 8 ≤ 70368744177664 := by omega
  have q4 : r.tags.length ≤ 70368744177664 := by omega
  simp only [lt_d, ge0_d, Int.toNat_natCast, blt_d, ble_self, beq_self, decide_true, cond_true, Bool.and_self, Bool.and_true, Bool.true_and, gd_true, Nat.zero_add, List.getD_cons_zero, List.getD_cons_succ, isI_int, toI_int, isB_bool, toB_bool, eL_T, arr_ln, arr_fn, arr_wd, arr_is, arr_get, ble_d, Nat.le_refl, q1, q2, q3, q4]
  have hst : st_sRoom_1 r 0 (rowsT []) 0 = (fun i : Nat => st_sRoom_1 r i (atL Sf.cs (r.things.take i)) (i : Nat)) 0 := by
    rw [rowsT0 Sf.cs]
    rfl
  rw [hst, forLoop r.things.length (fun i : Nat => st_sRoom_1 r i (atL Sf.cs (r.things.take i)) (i : Nat)) (ex_sRoom_1_1 r r.things.length (atL Sf.cs r.things) r.things.length) 0 (fun i K hi => ?_) (fun K => ?_) _ (Nat.le_refl _)]
  · rw [post_sRoom_1_1]
    have e1 : appF 0 (rowsT []) (plainF (atL Hd.cs r.kids)) = atL Hd.cs r.kids := by rw [plain_Hd, app0]
    have e2 : appF 0 (rowsT []) (plainF (atL rowI r.tags)) = atL rowI r.tags := by rw [plain_I, app0]
    simp only [lt_d, ge0_d, Int.toNat_natCast, blt_d, ble_self, beq_self, decide_true, cond_true, Bool.and_self, Bool.and_true, Bool.true_and, gd_true, Nat.zero_add, List.getD_cons_zero, List.getD_cons_succ, isI_int, toI_int, isB_bool, toB_bool, eL_T, arr_ln, arr_fn, arr_wd, arr_is, arr_get, ble_d, Nat.le_refl, e1, e2]
    rfl
  · have hx := List.getElem?_eq_getElem hi
    obtain ⟨x, hxe⟩ : ∃ x, x = r.things[i] := ⟨_, rfl⟩
    rw [← hxe] at hx
    have c0 : x.b.length ≤ LM := h1.2 _ (List.mem_of_getElem? hx)
    rw [round_sRoom_1, ← take_app Sf.cs hx]
    have hs : (i + 1) * 24 ≤ 70368744177664 := by omega
    have hs2 : i + 1 ≤ 70368744177664 := by omega
    have hs3 : x.b.length * 1 ≤ 70368744177664 := by omega
    have hs4 : x.b.length ≤ 70368744177664 := by omega
    have e1 : appF 0 (rowsT []) (plainF (atL rowB x.b)) = atL rowB x.b := by rw [plain_B, app0]
    simp (disch := omega) only [lt_d, ge0_d, Int.toNat_natCast, blt_d, ble_self, beq_self, decide_true, cond_true, Bool.and_self, Bool.and_true, Bool.true_and, gd_true, Nat.zero_add, List.getD_cons_zero, List.getD_cons_succ, isI_int, toI_int, isB_bool, toB_bool, eL_T, arr_ln, arr_fn, arr_wd, arr_is, arr_get, eL_T, ble_d, Nat.le_refl, hi, hs, hs2, hs3, hs4, atL_of hx, Sf.cs, wrapS, e1]
  · rw [round_sRoom_1]
    simp only [lt_d, Nat.lt_irrefl, decide_false, cond_false, List.take_length]
theorem s_sRoom : EntOk prog i_sRoom e_sRoom := ent_ok ea_sRoom_inj fun x hx =>
  body_sound (φ := (tabS [])) tabS_nil mixed (kp := kp_sRoom) (n := x.things.length + 1) func101 (c := bodyOf F_sRoom) (by kernel_rfl) (body_sRoom x hx) (name_ok (by kernel_rfl))
end Go.Mach.F
namespace Go.Mach.F
open Go Go.Mach Go.Proofs.Try
--=set_option maxRecDepth 100000
def zRm : Rm := ⟨⟨0, 0⟩, ⟨0, 0⟩, [], 0, 0, false, 0, [], []⟩
end Go.Mach.F
namespace Go.Mach.F
open Go Go.Mach Go.Proofs.Try
theorem rof_lt {l : List Rm} {h : Hd} (h0 : ¬ rof l h < 0) : 0 ≤ rof l h ∧ (rof l h).toNat < l.length := by
  refine ⟨by omega, ?_⟩
  unfold rof at h0 ⊢
  cases hf : (List.range l.length).find? (fun i => decide (l[i]?.map Rm.h = some h)) with
  | some i =>
    have := List.mem_range.1 (List.mem_of_find?_eq_some hf)
    simpa using this
  | none =>
    rw [hf] at h0
    exact absurd (by decide) h0
theorem getD_get {l : List Rm} {k : Nat} (h : k < l.length) : l[k]? = some (l.getD k zRm) := by
  rw [List.getD_eq_getElem?_getD, List.getElem?_eq_getElem h]
  rfl
end Go.Mach.F
namespace Go.Mach.F
open Go Go.Mach Go.Proofs.Try
--=set_option maxRecDepth 100000
def i_iHOk : Nat := 107
noncomputable abbrev F_iHOk : Func := f107
def kp_iHOk : List (Nat × List Nat) := [(0, [4, 5, 28, 32, 36]), (1, [8])]
noncomputable def e_iHOk : Ent := inl [] prog (tabS []) kp_iHOk 0 F_iHOk
theorem s_iHOk : EntOk prog i_iHOk e_iHOk := inl_ok tabS_nil mixed (c := bodyOf F_iHOk) func107 (by kernel_rfl) (name_ok (by kernel_rfl))
def i_sHOk : Nat := 102
noncomputable abbrev F_sHOk : Func := f102
def kp_sHOk : List (Nat × List Nat) := [(0, [4, 5, 28, 32, 36]), (1, [8])]
noncomputable def e_sHOk : Ent := inl [] prog (tabS []) kp_sHOk 0 F_sHOk
theorem s_sHOk : EntOk prog i_sHOk e_sHOk := inl_ok tabS_nil mixed (c := bodyOf F_sHOk) func102 (by kernel_rfl) (name_ok (by kernel_rfl))
end Go.Mach.F
namespace Go.Mach.F
open Go Go.Mach Go.Proofs.Try
--=set_option maxRecDepth 100000
def hOk (h : Hd) : Bool := decide (0 ≤ h.slot) && decide (1 ≤ h.gen)
def rsv (m : Ml) (h : Hd) : Int × Int := bif hOk h then (bif decide (rof m.rooms h < 0) then (-1, 2) else (rof m.rooms h, 0)) else (-1, 1)
def ok_iRsv (x : Ml × Hd) : Prop := x.1.rooms.length ≤ LM
def ea_iRsv (x : Ml × Hd) : List Arg := [aR x.1.cs, aR x.2.cs]
def f_iRsv (x : Ml × Hd) : Int × Int := rsv x.1 x.2
noncomputable def e_iRsv : Ent := ent [] ok_iRsv ea_iRsv (fun (x : Int × Int) => ([oT (.int .i64 x.1), oT (.int .i64 x.2)], [nul, nul])) f_iRsv
theorem ea_iRsv_inj (x y : Ml × Hd) (h : ea_iRsv x = ea_iRsv y) : x = y := by
  obtain ⟨m1, h1⟩ := x
  obtain ⟨m2, h2⟩ := y
  simp only [ea_iRsv, List.cons.injEq, and_true, true_and] at h
  obtain ⟨e0, e1⟩ := h
  obtain rfl := Ml.cs_ext (aR_inj e0)
  obtain rfl := Hd.cs_ext (aR_inj e1)
  rfl
theorem dm_iRsv {m : Ml} {h : Hd} (h0 : ok_iRsv (m, h)) : dom ok_iRsv ea_iRsv [(0, true, [C.tr false (T.int IntKind.i64 m.c.chunks), C.tr false (T.int IntKind.i64 m.c.size), C.tr false (T.int IntKind.i64 m.c.slots), C.tr false (T.int IntKind.i64 m.c.tax), C.tr false (T.int IntKind.i64 m.c.slice), C.tr false (T.int IntKind.i64 m.c.gens), C.tr false (T.arr 11 m.rooms.length (atL Rm.cs m.rooms)), C.tr false (T.arr 1 m.log.length (atL rowI m.log))]), (0, true, [C.tr false (T.int IntKind.i64 h.slot), C.tr false (T.int IntKind.i64 h.gen)])] = true := dom_ea (ea := ea_iRsv) (x := (m, h)) h0
theorem iv_iRsv {m : Ml} {h : Hd} (h0 : ok_iRsv (m, h)) : inv ok_iRsv ea_iRsv [(0, true, [C.tr false (T.int IntKind.i64 m.c.chunks), C.tr false (T.int IntKind.i64 m.c.size), C.tr false (T.int IntKind.i64 m.c.slots), C.tr false (T.int IntKind.i64 m.c.tax), C.tr false (T.int IntKind.i64 m.c.slice), C.tr false (T.int IntKind.i64 m.c.gens), C.tr false (T.arr 11 m.rooms.length (atL Rm.cs m.rooms)), C.tr false (T.arr 1 m.log.length (atL rowI m.log))]), (0, true, [C.tr false (T.int IntKind.i64 h.slot), C.tr false (T.int IntKind.i64 h.gen)])] = (m, h) := inv_ea ea_iRsv_inj (x := (m, h)) h0
theorem d_iRsv (m : Ml) (h : Hd) : f_iRsv (m, h) = rsv m h := rfl
def i_iRsv : Nat := 64
noncomputable abbrev F_iRsv : Func := f64
def kp_iRsv : List (Nat × List Nat) := [(0, [8, 9, 12, 13]), (1, [8, 9, 12, 13, 36]), (2, [16, 20]), (3, [24]), (4, [24, 56]), (5, [16, 20]), (6, [16, 20])]
theorem pre_iRsv (m : Ml) (h : Hd) (n : Nat) : body prog (tabS [(i_iHOk, e_iHOk), (i_iRoomOf, e_iRoomOf)]) kp_iRsv n F_iRsv [aR m.cs, aR h.cs] = (
 bif decide (0 ≤ h.1) then
  bif !decide (1 ≤ h.2) then
   some ([(false, [.tr true (T.int IntKind.i64 (-1))]), (false, [.tr true (T.int IntKind.i64 1)])], [(false, []), (false, [])])
  else
  entK ok_iRoomOf ea_iRoomOf (f_iRoomOf) [(0, true,
    [C.tr false (T.int IntKind.i64 m.c.1), C.tr false (T.int IntKind.i64 m.c.2),
      C.tr false (T.int IntKind.i64 m.c.3), C.tr false (T.int IntKind.i64 m.c.4),
      C.tr false (T.int IntKind.i64 m.c.5), C.tr false (T.int IntKind.i64 m.c.6), C.tr false (eL 11 Rm.cs m.2),
      C.tr false (eL 1 rowI m.3)]),
  (0, true, [C.tr false (T.int IntKind.i64 h.1), C.tr false (T.int IntKind.i64 h.2)])] fun (r1 : Int) =>
  bif decide (r1 < 0) then
   some ([(false, [.tr true (T.int IntKind.i64 (-1))]), (false, [.tr true (T.int IntKind.i64 2)])], [(false, []), (false, [])])
  else
  some ([(false, [.tr true (T.int IntKind.i64 r1)]), (false, [.tr true (T.int IntKind.i64 0)])], [(false, []), (false, [])])
 else
 some ([(false, [.tr true (T.int IntKind.i64 (-1))]), (false, [.tr true (T.int IntKind.i64 1)])], [(false, []), (false, [])])) := by kernel_rfl
def ok_sRsv (x : Ml × Hd) : Prop := x.1.rooms.length ≤ LM
def ea_sRsv (x : Ml × Hd) : List Arg := [aR x.1.cs, aR x.2.cs]
def f_sRsv (x : Ml × Hd) : Int × Int := rsv x.1 x.2
noncomputable def e_sRsv : Ent := ent [] ok_sRsv ea_sRsv (fun (x : Int × Int) => ([oT (.int .i64 x.1), oT (.int .i64 x.2)], [nul, nul])) f_sRsv
theorem ea_sRsv_inj (x y : Ml × Hd) (h : ea_sRsv x = ea_sRsv y) : x = y := by
  obtain ⟨m1, h1⟩ := x
  obtain ⟨m2, h2⟩ := y
  simp only [ea_sRsv, List.cons.injEq, and_true, true_and] at h
  obtain ⟨e0, e1⟩ := h
  obtain rfl := Ml.cs_ext (aR_inj e0)
  obtain rfl := Hd.cs_ext (aR_inj e1)
  rfl
theorem dm_sRsv {m : Ml} {h : Hd} (h0 : ok_sRsv (m, h)) : dom ok_sRsv ea_sRsv [(0, true, [C.tr false (T.int IntKind.i64 m.c.chunks), C.tr false (T.int IntKind.i64 m.c.size), C.tr false (T.int IntKind.i64 m.c.slots), C.tr false (T.int IntKind.i64 m.c.tax), C.tr false (T.int IntKind.i64 m.c.slice), C.tr false (T.int IntKind.i64 m.c.gens), C.tr false (T.arr 11 m.rooms.length (atL Rm.cs m.rooms)), C.tr false (T.arr 1 m.log.length (atL rowI m.log))]), (0, true, [C.tr false (T.int IntKind.i64 h.slot), C.tr false (T.int IntKind.i64 h.gen)])] = true := dom_ea (ea := ea_sRsv) (x := (m, h)) h0
theorem iv_sRsv {m : Ml} {h : Hd} (h0 : ok_sRsv (m, h)) : inv ok_sRsv ea_sRsv [(0, true, [C.tr false (T.int IntKind.i64 m.c.chunks), C.tr false (T.int IntKind.i64 m.c.size), C.tr false (T.int IntKind.i64 m.c.slots), C.tr false (T.int IntKind.i64 m.c.tax), C.tr false (T.int IntKind.i64 m.c.slice), C.tr false (T.int IntKind.i64 m.c.gens), C.tr false (T.arr 11 m.rooms.length (atL Rm.cs m.rooms)), C.tr false (T.arr 1 m.log.length (atL rowI m.log))]), (0, true, [C.tr false (T.int IntKind.i64 h.slot), C.tr false (T.int IntKind.i64 h.gen)])] = (m, h) := inv_ea ea_sRsv_inj (x := (m, h)) h0
theorem d_sRsv (m : Ml) (h : Hd) : f_sRsv (m, h) = rsv m h := rfl
def i_sRsv : Nat := 58
noncomputable abbrev F_sRsv : Func := f58
def kp_sRsv : List (Nat × List Nat) := [(0, [8, 9, 12, 13]), (1, [8, 9, 12, 13, 36]), (2, [16, 20]), (3, [24]), (4, [24, 56]), (5, [16, 20]), (6, [16, 20])]
theorem pre_sRsv (m : Ml) (h : Hd) (n : Nat) : body prog (tabS [(i_sHOk, e_sHOk), (i_sRoomOf, e_sRoomOf)]) kp_sRsv n F_sRsv [aR m.cs, aR h.cs] = (
 bif decide (0 ≤ h.1) then
  bif !decide (1 ≤ h.2) then
   some ([(false, [.tr true (T.int IntKind.i64 (-1))]), (false, [.tr true (T.int IntKind.i64 1)])], [(false, []), (false, [])])
  else
  entK ok_sRoomOf ea_sRoomOf (f_sRoomOf) [(0, true,
    [C.tr false (T.int IntKind.i64 m.c.1), C.tr false (T.int IntKind.i64 m.c.2),
      C.tr false (T.int IntKind.i64 m.c.3), C.tr false (T.int IntKind.i64 m.c.4),
      C.tr false (T.int IntKind.i64 m.c.5), C.tr false (T.int IntKind.i64 m.c.6), C.tr false (eL 11 Rm.cs m.2),
      C.tr false (eL 1 rowI m.3)]),
  (0, true, [C.tr false (T.int IntKind.i64 h.1), C.tr false (T.int IntKind.i64 h.2)])] fun (r1 : Int) =>
  bif decide (r1 < 0) then
   some ([(false, [.tr true (T.int IntKind.i64 (-1))]), (false, [.tr true (T.int IntKind.i64 2)])], [(false, []), (false, [])])
  else
  some ([(false, [.tr true (T.int IntKind.i64 r1)]), (false, [.tr true (T.int IntKind.i64 0)])], [(false, []), (false, [])])
 else
 some ([(false, [.tr true (T.int IntKind.i64 (-1))]), (false, [.tr true (T.int IntKind.i64 1)])], [(false, []), (false, [])])) := by kernel_rfl
end Go.Mach.F
