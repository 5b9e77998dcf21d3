/- Slices of handles, stuff and things: the laws' copies, comparisons, marks and sizes. Conditions: none. -/
import Derived.Test.YtkbhcdenfigpoaaFa
set_option linter.all false
namespace Go.Mach.F
open Go Go.Mach Go.Proofs.Try
--=set_option maxRecDepth 100000
theorem dm_toLI {l : List Int} (h : ok_LI l) : dom ok_LI ea_LI [(0, false, [C.tr false (T.arr 1 l.length (atL rowI l))])] = true := dom_ea (ea := ea_LI) (x := l) h
theorem iv_toLI {l : List Int} (h : ok_LI l) : inv ok_LI ea_LI [(0, false, [C.tr false (T.arr 1 l.length (atL rowI l))])] = l := inv_ea ea_LI_inj (x := l) h
theorem dm_eqLI {l r : List Int} (h : okq_LI l) : dom ok2_LI ea2_LI [(0, false, [C.tr false (T.arr 1 l.length (atL rowI l))]), (0, false, [C.tr false (T.arr 1 r.length (atL rowI r))])] = true := dom_ea (ea := ea2_LI) (x := (l, r)) h
theorem iv_eqLI {l r : List Int} (h : okq_LI l) : inv ok2_LI ea2_LI [(0, false, [C.tr false (T.arr 1 l.length (atL rowI l))]), (0, false, [C.tr false (T.arr 1 r.length (atL rowI r))])] = (l, r) := inv_ea ea2_LI_inj (x := (l, r)) h
theorem d_eqLI (l r : List Int) : f_eqLI (l, r) = decide (l = r) := rfl
theorem dm_hdLI {l : List Int} {k : Int} (h : okh_LI (l, k)) : dom okh_LI eah_LI [(0, false, [C.tr false (T.arr 1 l.length (atL rowI l))]), (0, false, [C.tr false (T.int IntKind.i64 k)])] = true := dom_ea (ea := eah_LI) (x := (l, k)) h
theorem iv_hdLI {l : List Int} {k : Int} (h : okh_LI (l, k)) : inv okh_LI eah_LI [(0, false, [C.tr false (T.arr 1 l.length (atL rowI l))]), (0, false, [C.tr false (T.int IntKind.i64 k)])] = (l, k) := inv_ea eah_LI_inj (x := (l, k)) h
theorem y_hdLI {l : List Int} {k : Int} (h : l = mk_LI l k) : f_hdLI (l, k) = k + cntL c1_LI l := if_pos h
theorem n_hdLI {l : List Int} {k : Int} (h : ¬ l = mk_LI l k) : f_hdLI (l, k) = -1 := if_neg h
theorem dm_mkLI {l : List Int} {k : Int} (h : okh_LI (l, k)) : dom okh_LI eam_LI [(1, false, [C.tr true (T.arr 1 l.length (atL rowI l))]), (0, false, [C.tr false (T.int IntKind.i64 k)])] = true := dom_ea (ea := eam_LI) (x := (l, k)) h
theorem iv_mkLI {l : List Int} {k : Int} (h : okh_LI (l, k)) : inv okh_LI eam_LI [(1, false, [C.tr true (T.arr 1 l.length (atL rowI l))]), (0, false, [C.tr false (T.int IntKind.i64 k)])] = (l, k) := inv_ea eam_LI_inj (x := (l, k)) h
theorem len_mkLI (l : List Int) (k : Int) : (mk_LI l k).length = l.length := markL_len _ _ _ _
theorem d_mkLI (l : List Int) (k : Int) : f_mkLI (l, k) = mk_LI l k := rfl
theorem d_ctLI (l : List Int) (k : Int) : f_ctLI (l, k) = k + cntL c1_LI l := rfl
theorem dm_toLB {l : List UInt8} (h : ok_LB l) : dom ok_LB ea_LB [(0, false, [C.tr false (T.arr 1 l.length (atL rowB l))])] = true := dom_ea (ea := ea_LB) (x := l) h
theorem iv_toLB {l : List UInt8} (h : ok_LB l) : inv ok_LB ea_LB [(0, false, [C.tr false (T.arr 1 l.length (atL rowB l))])] = l := inv_ea ea_LB_inj (x := l) h
theorem dm_eqLB {l r : List UInt8} (h : okq_LB l) : dom ok2_LB ea2_LB [(0, false, [C.tr false (T.arr 1 l.length (atL rowB l))]), (0, false, [C.tr false (T.arr 1 r.length (atL rowB r))])] = true := dom_ea (ea := ea2_LB) (x := (l, r)) h
theorem iv_eqLB {l r : List UInt8} (h : okq_LB l) : inv ok2_LB ea2_LB [(0, false, [C.tr false (T.arr 1 l.length (atL rowB l))]), (0, false, [C.tr false (T.arr 1 r.length (atL rowB r))])] = (l, r) := inv_ea ea2_LB_inj (x := (l, r)) h
theorem d_eqLB (l r : List UInt8) : f_eqLB (l, r) = decide (l = r) := rfl
theorem dm_hdLB {l : List UInt8} {k : Int} (h : okh_LB (l, k)) : dom okh_LB eah_LB [(0, false, [C.tr false (T.arr 1 l.length (atL rowB l))]), (0, false, [C.tr false (T.int IntKind.i64 k)])] = true := dom_ea (ea := eah_LB) (x := (l, k)) h
theorem iv_hdLB {l : List UInt8} {k : Int} (h : okh_LB (l, k)) : inv okh_LB eah_LB [(0, false, [C.tr false (T.arr 1 l.length (atL rowB l))]), (0, false, [C.tr false (T.int IntKind.i64 k)])] = (l, k) := inv_ea eah_LB_inj (x := (l, k)) h
theorem y_hdLB {l : List UInt8} {k : Int} (h : l = mk_LB l k) : f_hdLB (l, k) = k + cntL c1_LB l := if_pos h
theorem n_hdLB {l : List UInt8} {k : Int} (h : ¬ l = mk_LB l k) : f_hdLB (l, k) = -1 := if_neg h
theorem dm_mkLB {l : List UInt8} {k : Int} (h : okh_LB (l, k)) : dom okh_LB eam_LB [(1, false, [C.tr true (T.arr 1 l.length (atL rowB l))]), (0, false, [C.tr false (T.int IntKind.i64 k)])] = true := dom_ea (ea := eam_LB) (x := (l, k)) h
theorem iv_mkLB {l : List UInt8} {k : Int} (h : okh_LB (l, k)) : inv okh_LB eam_LB [(1, false, [C.tr true (T.arr 1 l.length (atL rowB l))]), (0, false, [C.tr false (T.int IntKind.i64 k)])] = (l, k) := inv_ea eam_LB_inj (x := (l, k)) h
theorem len_mkLB (l : List UInt8) (k : Int) : (mk_LB l k).length = l.length := markL_len _ _ _ _
theorem d_mkLB (l : List UInt8) (k : Int) : f_mkLB (l, k) = mk_LB l k := rfl
theorem d_ctLB (l : List UInt8) (k : Int) : f_ctLB (l, k) = k + cntL c1_LB l := rfl
def okz_LI (l : List Int) : Prop := l.length ≤ ZM
def n_LI (l : List Int) : Nat := l.length
def okz_LB (l : List UInt8) : Prop := l.length ≤ ZM
def n_LB (l : List UInt8) : Nat := l.length
theorem Hd.cs_inj (x y : Hd) (h : ∀ k, x.cs.getD k .hole = y.cs.getD k .hole) : x = y := by
  have h0 := h 0; have h1 := h 1
  rcases x with ⟨x0, x1⟩
  rcases y with ⟨y0, y1⟩
  simp only [Hd.cs, List.getD_cons_zero, List.getD_cons_succ, T.int.injEq, T.bool.injEq, true_and] at h0 h1
  subst h0; subst h1
  rfl
def i_toHd : Nat := 33
noncomputable abbrev F_toHd : Func := f33
def kp_toHd : List (Nat × List Nat) := [(0, [4, 5, 8, 9]), (1, [4, 5, 8, 9, 12, 13]), (2, [4, 5, 8, 9, 12, 13]), (3, [8, 9, 12, 13]), (4, [8, 9])]
noncomputable def e_toHd : Ent := inl [] prog (tabS []) kp_toHd 0 F_toHd
theorem s_toHd : EntOk prog i_toHd e_toHd := inl_ok tabS_nil mixed (c := bodyOf F_toHd) func33 (by kernel_rfl) (name_ok (by kernel_rfl))
def i_eqHd : Nat := 89
noncomputable abbrev F_eqHd : Func := f89
def kp_eqHd : List (Nat × List Nat) := [(0, [8, 9, 12, 13]), (1, [8, 9, 12, 13, 36]), (2, [16]), (3, [56]), (4, [16]), (5, [16])]
noncomputable def e_eqHd : Ent := inl [] prog (tabS []) kp_eqHd 0 F_eqHd
theorem s_eqHd : EntOk prog i_eqHd e_eqHd := inl_ok tabS_nil mixed (c := bodyOf F_eqHd) func89 (by kernel_rfl) (name_ok (by kernel_rfl))
def ok_HdS (l : List Hd) : Prop := l.length ≤ LM ∧ ∀ x ∈ l, True
def ea_HdS (l : List Hd) : List Arg := [aT (eL 2 Hd.cs l)]
noncomputable def e_toHdS : Ent := ent [] ok_HdS ea_HdS (fun l => erT 1 (eL 2 Hd.cs l)) fun l => l
def okq_HdS (l : List Hd) : Prop := l.length ≤ BM ∧ ∀ x ∈ l, True
def ok2_HdS (x : List Hd × List Hd) : Prop := okq_HdS x.1
def ea2_HdS (x : List Hd × List Hd) : List Arg := [aT (eL 2 Hd.cs x.1), aT (eL 2 Hd.cs x.2)]
def f_eqHdS (x : List Hd × List Hd) : Bool := decide (x.1 = x.2)
noncomputable def e_eqHdS : Ent := ent [] ok2_HdS ea2_HdS (erB 2) f_eqHdS
theorem ea_HdS_inj (x y : List Hd) (h : ea_HdS x = ea_HdS y) : x = y := by
  simp only [ea_HdS, aT, List.cons.injEq, Prod.mk.injEq, true_and, and_true, C.tr.injEq] at h
  exact eL_inj Hd.cs_inj h
theorem ea2_HdS_inj (x y : List Hd × List Hd) (h : ea2_HdS x = ea2_HdS y) : x = y := by
  simp only [ea2_HdS, aT, List.cons.injEq, Prod.mk.injEq, true_and, and_true, C.tr.injEq] at h
  exact Prod.ext (eL_inj Hd.cs_inj h.1) (eL_inj Hd.cs_inj h.2)
def i_toHdS : Nat := 176
noncomputable abbrev F_toHdS : Func := f176
def kp_toHdS : List (Nat × List Nat) := [(0, [0]), (1, [0, 12]), (2, [0, 12, 16]), (3, [0, 12, 16, 44]), (4, [0, 12, 16]), (5, [0, 12, 16]), (6, [8])]
def ts_toHdS : List Nat := [0]
def st_toHdS_1 (l : List Hd) (nx12 : Nat) (fx12 : Nat → Nat → T) (x16 : Int) : St := [(0, ⟨z0, [(false, [.tr false (eL 2 Hd.cs l)])]⟩), (12, ⟨z0, [(false, [.tr true (.arr (2) (nx12) (fx12))])]⟩), (16, ⟨z0, [(false, [.tr true (T.int IntKind.i64 x16)])]⟩)]
def ex_toHdS_1_1 (l : List Hd) (nx12 : Nat) (fx12 : Nat → Nat → T) (x16 : Int) : St := [(0, ⟨z0, [(false, [.tr false (eL 2 Hd.cs l)])]⟩), (12, ⟨z0, [(false, [.tr true (.arr (2) (nx12) (fx12))])]⟩), (16, ⟨z0, [(false, [.tr true (T.int IntKind.i64 x16)])]⟩), (44, ⟨z0, []⟩)]
theorem round_toHdS_1 (l : List Hd) (nx12 : Nat) (fx12 : Nat → Nat → T) (x16 : Int) (n : Nat) (K : Ex → St → Res) : roundAt prog (tabS [(i_toHd, e_toHd)]) kp_toHdS F_toHdS [1, 1, 0, 1, 0] n (st_toHdS_1 l nx12 fx12 x16) K = (
 bif decide (x16 < (↑l.length : Int)) then
  gd (decide (0 ≤ x16) && (x16.toNat.blt l.length && true)) <|
  gd (T.isI IntKind.i64 (atL Hd.cs l x16.toNat 0) && T.isI IntKind.i64 (atL Hd.cs l x16.toNat 1)) <|
  gd (decide (0 ≤ x16) && (x16.toNat.blt nx12 && true)) <|
  gd ((0 + x16.toNat).blt nx12 && true && true) <|
  gd ((0 + x16.toNat).blt nx12 && true && true) <|
  K .normal (st_toHdS_1 l (nx12) (setF (0 + x16.toNat) 1 (T.int IntKind.i64 (atL Hd.cs l x16.toNat 1).toI)
  (setF (0 + x16.toNat) 0 (T.int IntKind.i64 (atL Hd.cs l x16.toNat 0).toI) fx12)) (IntKind.i64.wrap (x16 + 1)))
 else
 K (.exit 0) (ex_toHdS_1_1 l nx12 fx12 x16)) := by kernel_rfl
theorem post_toHdS_1_1 (l : List Hd) (nx12 : Nat) (fx12 : Nat → Nat → T) (x16 : Int) (n : Nat) : contAt prog (tabS [(i_toHd, e_toHd)]) kp_toHdS F_toHdS ts_toHdS [1, 1, 0, 1, 0] [] n (.exit 0) (ex_toHdS_1_1 l nx12 fx12 x16) = (
 gd (nx12.ble nx12 && true) <|
 gd (nx12.ble nx12 && true) <|
 some ([(false, [.tr true (.arr (2) (nx12) (fx12))])], [(false, [])])) := by kernel_rfl
theorem pre_toHdS (l : List Hd) (n : Nat) : body prog (tabS [(i_toHd, e_toHd)]) kp_toHdS n F_toHdS [aT (eL 2 Hd.cs l)] = (
 gd (decide (0 ≤ (↑l.length : Int)) &&
  (decide ((↑l.length : Int) ≤ (↑l.length : Int)) &&
    (((↑l.length : Int).toNat * 16).ble 70368744177664 && (↑l.length : Int).toNat.ble 70368744177664))) <|
 gd ((↑l.length : Int).toNat.ble (↑l.length : Int).toNat && true) <|
 loopAt prog (tabS [(i_toHd, e_toHd)]) kp_toHdS F_toHdS [1, 1, 0, 1, 0] n n (st_toHdS_1 l ((↑l.length : Int).toNat) (cutT 0 (↑l.length : Int).toNat (zeroT prog 57)) (0)) (contAt prog (tabS [(i_toHd, e_toHd)]) kp_toHdS F_toHdS ts_toHdS [1, 1, 0, 1, 0] [] n)) := by kernel_rfl
theorem body_toHdS (l : List Hd) (hl : ok_HdS l) : body prog (tabS [(i_toHd, e_toHd)]) kp_toHdS (l.length + 1) F_toHdS (ea_HdS l) = some (erT 1 (eL 2 Hd.cs l)) := by
  have hl' : l.length ≤ LM := hl.1
  have hlm := lm
  unfold ea_HdS
  rw [pre_toHdS]
  simp only [ge0_d, Int.toNat_natCast, ble_d, Int.le_refl, Nat.le_refl, decide_true, Bool.and_true, Bool.true_and, gd_true]
  rw [decide_eq_true (show l.length * 16 ≤ 70368744177664 by omega), decide_eq_true (show l.length ≤ 70368744177664 by omega)]
  simp only [Bool.and_true, gd_true]
  rw [zero_fill (m := 2) (row := Hd.cs) (d := default) l.length (fun j k => by rcases k with _ | _ | _ <;> kernel_rfl), ← fill_zero l default]
  have hst : st_toHdS_1 l l.length (atL Hd.cs (fill l default 0)) 0 = (fun i : Nat => st_toHdS_1 l l.length (atL Hd.cs (fill l default i)) (i : Nat)) 0 := rfl
  rw [hst, forLoop l.length (fun i : Nat => st_toHdS_1 l l.length (atL Hd.cs (fill l default i)) (i : Nat)) (ex_toHdS_1_1 l l.length (atL Hd.cs l) l.length) 0 (fun i K hi => ?_) (fun K => ?_) _ (Nat.le_refl _)]
  · rw [post_toHdS_1_1]
    simp only [ble_d, Nat.le_refl, decide_true, gd_true, Bool.and_true]
    rfl
  · have hx := List.getElem?_eq_getElem hi
    
    have hd : (fill l default i)[i]? = some default := by
      unfold fill
      rw [List.getElem?_append_right (by simp; omega), List.getElem?_replicate, if_pos (by simp; omega)]
    rw [round_toHdS_1]
    simp only [lt_d, ge0_d, Int.toNat_natCast, blt_d, ble_self, beq_self, decide_true, cond_true, Bool.and_self, Bool.and_true, Bool.true_and, gd_true, Nat.zero_add, List.getD_cons_zero, List.getD_cons_succ, isI_int, toI_int, isB_bool, toB_bool, eL_T, arr_ln, arr_fn, arr_wd, arr_is, arr_get, hi, atL_of hx, Hd.cs]
    rw [wrapS (by omega), ← fill_set l default hx]
    congr 3
    refine set_atL (by rw [fill_len l default (by omega)]; exact hi) fun j' k' => ?_
    by_cases e : j' = i
    · subst e
      rcases k' with _ | _ | k' <;> simp [setF_d, Hd.cs, atL_of hd, eL_T]
    · simp [setF_d, e]
  · rw [round_toHdS_1, fill_all]
    simp only [lt_d, Nat.lt_irrefl, decide_false, cond_false]
theorem s_toHdS : EntOk prog i_toHdS e_toHdS := ent_ok ea_HdS_inj fun l hl =>
  body_sound (φ := (tabS [(i_toHd, e_toHd)])) (tabS_cons s_toHd tabS_nil) mixed (kp := kp_toHdS) (n := l.length + 1) func176 (c := bodyOf F_toHdS) (by kernel_rfl) (body_toHdS l hl) (name_ok (by kernel_rfl))

def i_eqHdS : Nat := 90
noncomputable abbrev F_eqHdS : Func := f90
def kp_eqHdS : List (Nat × List Nat) := [(0, [0, 4]), (1, [0, 4, 40]), (2, [16]), (3, [0, 4, 20]), (4, [0, 4, 20, 56]), (5, [0, 4, 20]), (6, [0, 4, 20, 104]), (7, [16]), (8, [16])]
def ts_eqHdS : List Nat := [0, 0]
def st_eqHdS_1 (l r : List Hd) (x20 : Int) : St := [(0, ⟨z0, [(false, [.tr false (eL 2 Hd.cs l)])]⟩), (4, ⟨z0, [(false, [.tr false (eL 2 Hd.cs r)])]⟩), (20, ⟨z0, [(false, [.tr true (T.int IntKind.i64 x20)])]⟩)]
def ex_eqHdS_1_1 (l r : List Hd) (x20 : Int) : St := [(16, ⟨z0, [(false, [.tr true (T.bool false)])]⟩)]
def ex_eqHdS_1_2 (l r : List Hd) (x20 : Int) : St := [(0, ⟨z0, [(false, [.tr false (eL 2 Hd.cs l)])]⟩), (4, ⟨z0, [(false, [.tr false (eL 2 Hd.cs r)])]⟩), (20, ⟨z0, [(false, [.tr true (T.int IntKind.i64 x20)])]⟩), (56, ⟨z0, []⟩)]
theorem round_eqHdS_1 (l r : List Hd) (x20 : Int) (n : Nat) (K : Ex → St → Res) : roundAt prog (tabS [(i_eqHd, e_eqHd)]) kp_eqHdS F_eqHdS [1, 1, 0, 1, 0] n (st_eqHdS_1 l r x20) K = (
 bif decide (x20 < (↑l.length : Int)) then
  gd (decide (0 ≤ x20) && (x20.toNat.blt l.length && true)) <|
  gd (T.isI IntKind.i64 (atL Hd.cs l x20.toNat 0) && T.isI IntKind.i64 (atL Hd.cs l x20.toNat 1)) <|
  gd (decide (0 ≤ x20) && (x20.toNat.blt r.length && true)) <|
  gd (T.isI IntKind.i64 (atL Hd.cs r x20.toNat 0) && T.isI IntKind.i64 (atL Hd.cs r x20.toNat 1)) <|
  bif (atL Hd.cs l x20.toNat 0).toI != (atL Hd.cs r x20.toNat 0).toI then
   K .ret (ex_eqHdS_1_1 l r x20)
  else
  bif (atL Hd.cs l x20.toNat 1).toI != (atL Hd.cs r x20.toNat 1).toI then
   K .ret (ex_eqHdS_1_1 l r x20)
  else
  K .normal (st_eqHdS_1 l r (IntKind.i64.wrap (x20 + 1)))
 else
 K (.exit 0) (ex_eqHdS_1_2 l r x20)) := by kernel_rfl
theorem post_eqHdS_1_1 (l r : List Hd) (x20 : Int) (n : Nat) : contAt prog (tabS [(i_eqHd, e_eqHd)]) kp_eqHdS F_eqHdS ts_eqHdS [1, 1, 0, 1, 0] [] n .ret (ex_eqHdS_1_1 l r x20) = (
 some ([(false, [.tr true (T.bool false)])], [(false, []), (false, [])])) := by kernel_rfl
theorem post_eqHdS_1_2 (l r : List Hd) (x20 : Int) (n : Nat) : contAt prog (tabS [(i_eqHd, e_eqHd)]) kp_eqHdS F_eqHdS ts_eqHdS [1, 1, 0, 1, 0] [] n (.exit 0) (ex_eqHdS_1_2 l r x20) = (
 some ([(false, [.tr true (T.bool true)])], [(false, []), (false, [])])) := by kernel_rfl
theorem pre_eqHdS (l r : List Hd) (n : Nat) : body prog (tabS [(i_eqHd, e_eqHd)]) kp_eqHdS n F_eqHdS [aT (eL 2 Hd.cs l), aT (eL 2 Hd.cs r)] = (
 bif (↑l.length : Int) != (↑r.length : Int) then
  some ([(false, [.tr true (T.bool false)])], [(false, []), (false, [])])
 else
 loopAt prog (tabS [(i_eqHd, e_eqHd)]) kp_eqHdS F_eqHdS [1, 1, 0, 1, 0] n n (st_eqHdS_1 l r (0)) (contAt prog (tabS [(i_eqHd, e_eqHd)]) kp_eqHdS F_eqHdS ts_eqHdS [1, 1, 0, 1, 0] [] n)) := by kernel_rfl
theorem body_eqHdS (l r : List Hd) (hl : okq_HdS l) : body prog (tabS [(i_eqHd, e_eqHd)]) kp_eqHdS (l.length + 1) F_eqHdS (ea2_HdS (l, r)) = some (erB 2 (f_eqHdS (l, r))) := by
  have hbm := bm
  have hl' : l.length ≤ BM := hl.1
  unfold ea2_HdS f_eqHdS
  dsimp only
  rw [pre_eqHdS, int_ne]
  by_cases h : l.length = r.length
  · rw [decide_eq_true (by omega)]
    simp only [Bool.not_true, cond_false]
    have hst : st_eqHdS_1 l r 0 = (fun i : Nat => st_eqHdS_1 l r (i : Nat)) 0 := rfl
    rw [hst, eqS l r h (fun i : Nat => st_eqHdS_1 l r (i : Nat)) (fun i : Nat => ex_eqHdS_1_1 l r (i : Nat)) (ex_eqHdS_1_2 l r l.length) (fun i x y K hx hy => ?_) (fun K => ?_) (fun i => post_eqHdS_1_1 l r _ _) (post_eqHdS_1_2 l r _ _) _ (Nat.le_refl _)]
    · by_cases e : l = r
      · rw [if_pos e, decide_eq_true e]; rfl
      · rw [if_neg e, decide_eq_false e]; rfl
    · have hi := (List.getElem?_eq_some_iff.1 hx).1
      have hi' := (List.getElem?_eq_some_iff.1 hy).1
      have hxm : x ∈ l := List.mem_of_getElem? hx
      
      rw [round_eqHdS_1]
      simp only [lt_d, ge0_d, Int.toNat_natCast, blt_d, ble_self, beq_self, decide_true, cond_true, Bool.and_self, Bool.and_true, Bool.true_and, gd_true, Nat.zero_add, List.getD_cons_zero, List.getD_cons_succ, isI_int, toI_int, isB_bool, toB_bool, eL_T, arr_ln, arr_fn, arr_wd, arr_is, arr_get, hi, hi', atL_of hx, atL_of hy, Hd.cs, int_ne, bool_ne, bool_eq, chain]
      rw [wrapS (by omega)]
      have hxy : (x.slot = y.slot ∧ x.gen = y.gen) ↔ x = y := by
        rcases x with ⟨x0, x1⟩
        rcases y with ⟨y0, y1⟩
        simp [and_assoc]
      simp only [hxy]
    · rw [round_eqHdS_1]
      simp only [lt_d, Nat.lt_irrefl, decide_false, cond_false]
  · rw [decide_eq_false (by omega)]
    have : ¬ l = r := fun e => h (by rw [e])
    rw [decide_eq_false this]
    rfl
theorem s_eqHdS : EntOk prog i_eqHdS e_eqHdS := ent_ok ea2_HdS_inj fun x hx =>
  body_sound (φ := (tabS [(i_eqHd, e_eqHd)])) (tabS_cons s_eqHd tabS_nil) mixed (kp := kp_eqHdS) (n := x.1.length + 1) func90 (c := bodyOf F_eqHdS) (by kernel_rfl) (body_eqHdS x.1 x.2 hx) (name_ok (by kernel_rfl))

theorem dm_toHdS {l : List Hd} (h : ok_HdS l) : dom ok_HdS ea_HdS [(0, false, [C.tr false (T.arr 2 l.length (atL Hd.cs l))])] = true := dom_ea (ea := ea_HdS) (x := l) h
theorem iv_toHdS {l : List Hd} (h : ok_HdS l) : inv ok_HdS ea_HdS [(0, false, [C.tr false (T.arr 2 l.length (atL Hd.cs l))])] = l := inv_ea ea_HdS_inj (x := l) h
theorem dm_eqHdS {l r : List Hd} (h : okq_HdS l) : dom ok2_HdS ea2_HdS [(0, false, [C.tr false (T.arr 2 l.length (atL Hd.cs l))]), (0, false, [C.tr false (T.arr 2 r.length (atL Hd.cs r))])] = true := dom_ea (ea := ea2_HdS) (x := (l, r)) h
theorem iv_eqHdS {l r : List Hd} (h : okq_HdS l) : inv ok2_HdS ea2_HdS [(0, false, [C.tr false (T.arr 2 l.length (atL Hd.cs l))]), (0, false, [C.tr false (T.arr 2 r.length (atL Hd.cs r))])] = (l, r) := inv_ea ea2_HdS_inj (x := (l, r)) h
theorem d_eqHdS (l r : List Hd) : f_eqHdS (l, r) = decide (l = r) := rfl
def m1_HdS (x : Hd) (k : Int) : Hd := ⟨(k), (k + 1)⟩
def c1_HdS (x : Hd) : Nat := 1 + 1
def okh_HdS (x : List Hd × Int) : Prop := okq_HdS x.1 ∧ 0 ≤ x.2 ∧ x.2 + cntL c1_HdS x.1 ≤ BM
def eah_HdS (x : List Hd × Int) : List Arg := [aT (eL 2 Hd.cs x.1), aI x.2]
def eam_HdS (x : List Hd × Int) : List Arg := [lT (eL 2 Hd.cs x.1), aI x.2]
def mk_HdS (l : List Hd) (k : Int) : List Hd := markL m1_HdS c1_HdS l k
def f_hdHdS (x : List Hd × Int) : Int := if x.1 = mk_HdS x.1 x.2 then x.2 + cntL c1_HdS x.1 else -1
def f_mkHdS (x : List Hd × Int) : List Hd := mk_HdS x.1 x.2
def f_ctHdS (x : List Hd × Int) : Int := x.2 + cntL c1_HdS x.1
noncomputable def e_hdHdS : Ent := ent [] okh_HdS eah_HdS (erI 2) f_hdHdS
noncomputable def e_mkHdS : Ent := ent [1] okh_HdS eam_HdS (fun x => ([oT (.int .i64 (f_ctHdS x))], [oT (eL 2 Hd.cs (f_mkHdS x)), nul])) fun x => x
theorem eah_HdS_inj (x y : List Hd × Int) (h : eah_HdS x = eah_HdS y) : x = y := by
  simp only [eah_HdS, aI, aT, List.cons.injEq, Prod.mk.injEq, true_and, and_true, C.tr.injEq, T.int.injEq] at h
  exact Prod.ext (eL_inj Hd.cs_inj h.1) h.2
theorem eam_HdS_inj (x y : List Hd × Int) (h : eam_HdS x = eam_HdS y) : x = y := by
  simp only [eam_HdS, lT, aI, aT, List.cons.injEq, Prod.mk.injEq, true_and, and_true, C.tr.injEq, T.int.injEq] at h
  exact Prod.ext (eL_inj Hd.cs_inj h.1) h.2
def i_hdHdS : Nat := 94
noncomputable abbrev F_hdHdS : Func := f94
def kp_hdHdS : List (Nat × List Nat) := [(0, [0, 4]), (1, [0, 4, 20]), (2, [0, 4, 20, 36]), (3, [0, 4, 20]), (4, [0, 4, 20, 72]), (5, [16]), (6, [0, 4, 20]), (7, [0, 4, 20, 108]), (8, [16]), (9, [0, 4, 20]), (10, [16])]
def ts_hdHdS : List Nat := [0, 0]
def st_hdHdS_1 (l : List Hd) (k : Int) (x4 : Int) (x20 : Int) : St := [(0, ⟨z0, [(false, [.tr false (eL 2 Hd.cs l)])]⟩), (4, ⟨z0, [(false, [.tr true (T.int IntKind.i64 x4)])]⟩), (20, ⟨z0, [(false, [.tr true (T.int IntKind.i64 x20)])]⟩)]
def ex_hdHdS_1_1 (l : List Hd) (k : Int) (x4 : Int) (x20 : Int) : St := [(16, ⟨z0, [(false, [.tr true (T.int IntKind.i64 (-1))])]⟩)]
def ex_hdHdS_1_2 (l : List Hd) (k : Int) (x4 : Int) (x20 : Int) : St := [(0, ⟨z0, [(false, [.tr false (eL 2 Hd.cs l)])]⟩), (4, ⟨z0, [(false, [.tr true (T.int IntKind.i64 x4)])]⟩), (20, ⟨z0, [(false, [.tr true (T.int IntKind.i64 x20)])]⟩), (36, ⟨z0, []⟩)]
theorem round_hdHdS_1 (l : List Hd) (k : Int) (x4 : Int) (x20 : Int) (n : Nat) (K : Ex → St → Res) : roundAt prog (tabS []) kp_hdHdS F_hdHdS [1, 0, 1, 0] n (st_hdHdS_1 l k x4 x20) K = (
 bif decide (x20 < (↑l.length : Int)) then
  gd (decide (0 ≤ x20) && (x20.toNat.blt l.length && true)) <|
  gd (T.isI IntKind.i64 (atL Hd.cs l x20.toNat 0)) <|
  bif (atL Hd.cs l x20.toNat 0).toI != x4 then
   K .ret (ex_hdHdS_1_1 l k x4 x20)
  else
  gd (decide (0 ≤ x20) && (x20.toNat.blt l.length && true)) <|
  gd (T.isI IntKind.i64 (atL Hd.cs l x20.toNat 1)) <|
  bif (atL Hd.cs l x20.toNat 1).toI != IntKind.i64.wrap (x4 + 1) then
   K .ret (ex_hdHdS_1_1 l k x4 x20)
  else
  K .normal (st_hdHdS_1 l k (IntKind.i64.wrap (IntKind.i64.wrap (x4 + 1) + 1)) (IntKind.i64.wrap (x20 + 1)))
 else
 K (.exit 0) (ex_hdHdS_1_2 l k x4 x20)) := by kernel_rfl
theorem post_hdHdS_1_1 (l : List Hd) (k : Int) (x4 : Int) (x20 : Int) (n : Nat) : contAt prog (tabS []) kp_hdHdS F_hdHdS ts_hdHdS [1, 0, 1, 0] [] n .ret (ex_hdHdS_1_1 l k x4 x20) = (
 some ([(false, [.tr true (T.int IntKind.i64 (-1))])], [(false, []), (false, [])])) := by kernel_rfl
theorem post_hdHdS_1_2 (l : List Hd) (k : Int) (x4 : Int) (x20 : Int) (n : Nat) : contAt prog (tabS []) kp_hdHdS F_hdHdS ts_hdHdS [1, 0, 1, 0] [] n (.exit 0) (ex_hdHdS_1_2 l k x4 x20) = (
 some ([(false, [.tr true (T.int IntKind.i64 x4)])], [(false, []), (false, [])])) := by kernel_rfl
theorem pre_hdHdS (l : List Hd) (k : Int) (n : Nat) : body prog (tabS []) kp_hdHdS n F_hdHdS [aT (eL 2 Hd.cs l), aI k] = (
 loopAt prog (tabS []) kp_hdHdS F_hdHdS [1, 0, 1, 0] n n (st_hdHdS_1 l k (k) (0)) (contAt prog (tabS []) kp_hdHdS F_hdHdS ts_hdHdS [1, 0, 1, 0] [] n)) := by kernel_rfl
theorem body_hdHdS (l : List Hd) (k : Int) (h : okh_HdS (l, k)) : body prog (tabS []) kp_hdHdS (l.length + 1) F_hdHdS (eah_HdS (l, k)) = some (erI 2 (f_hdHdS (l, k))) := by
  obtain ⟨hl, hk0, hk1⟩ := h
  have hbm := bm
  dsimp only at hl hk0 hk1
  have hl' : l.length ≤ BM := hl.1
  unfold eah_HdS f_hdHdS
  dsimp only
  rw [pre_hdHdS]
  have hst : st_hdHdS_1 l k k 0 = (fun i : Nat => st_hdHdS_1 l k (k + cntL c1_HdS (l.take i)) (i : Nat)) 0 := by simp [cntL]
  rw [hst, heldS m1_HdS c1_HdS l k (fun i : Nat => st_hdHdS_1 l k (k + cntL c1_HdS (l.take i)) (i : Nat)) (fun i : Nat => ex_hdHdS_1_1 l k (k + cntL c1_HdS (l.take i)) (i : Nat)) (ex_hdHdS_1_2 l k (k + cntL c1_HdS l) l.length) (fun i x K hx => ?_) (fun K => ?_) (fun i => post_hdHdS_1_1 l k _ _ _) (post_hdHdS_1_2 l k _ _ _) _ (Nat.le_refl _)]
  · unfold mk_HdS
    split <;> rfl
  · have hi := (List.getElem?_eq_some_iff.1 hx).1
    have hxm : x ∈ l := List.mem_of_getElem? hx
    have hc := cntL_take c1_HdS l hx
    have hcl := cntL_le c1_HdS l (i + 1)
    have hcx : c1_HdS x = 1 + 1 := rfl
    
    rw [hc, round_hdHdS_1]
    obtain ⟨k0, hk⟩ : ∃ k0, k0 = k + (cntL c1_HdS (l.take i) : Int) := ⟨_, rfl⟩
    have hk2 : k + ((cntL c1_HdS (l.take i) + c1_HdS x : Nat) : Int) = k0 + 1 + 1 := by omega
    rw [hk2, ← hk]
    
    simp (disch := omega) only [lt_d, ge0_d, Int.toNat_natCast, blt_d, ble_self, beq_self, decide_true, cond_true, Bool.and_self, Bool.and_true, Bool.true_and, gd_true, Nat.zero_add, List.getD_cons_zero, List.getD_cons_succ, isI_int, toI_int, isB_bool, toB_bool, eL_T, arr_ln, arr_fn, arr_wd, arr_is, arr_get, hi, atL_of hx, Hd.cs, int_ne, bool_ne, wrapI, wrapS]
    by_cases e0 : x.slot = k0
    case neg =>
      rw [decide_eq_false e0, decide_eq_false (show ¬ x = m1_HdS x k0 from fun e => e0 (congrArg (fun z : Hd => z.slot) e))]
      rfl
    rw [decide_eq_true e0]
    simp (disch := omega) only [Bool.not_true, cond_false, wrapI]
    by_cases e1 : x.gen = k0 + 1
    case neg =>
      rw [decide_eq_false e1, decide_eq_false (show ¬ x = m1_HdS x k0 from fun e => e1 (congrArg (fun z : Hd => z.gen) e))]
      rfl
    rw [decide_eq_true e1]
    simp (disch := omega) only [Bool.not_true, cond_false, wrapI]
    have hm : x = m1_HdS x k0 := by
      rcases x with ⟨x0, x1⟩
      simp only [m1_HdS, Hd.mk.injEq]
      exact ⟨e0, e1⟩
    rw [decide_eq_true hm]
    simp only [Bool.not_true, cond_false]
    congr 2
  · rw [round_hdHdS_1]
    simp only [lt_d, Nat.lt_irrefl, decide_false, cond_false, List.take_length]
theorem s_hdHdS : EntOk prog i_hdHdS e_hdHdS := ent_ok eah_HdS_inj fun x hx =>
  body_sound (φ := (tabS [])) tabS_nil mixed (kp := kp_hdHdS) (n := x.1.length + 1) func94 (c := bodyOf F_hdHdS) (by kernel_rfl) (body_hdHdS x.1 x.2 hx) (name_ok (by kernel_rfl))

def i_mkHdS : Nat := 92
noncomputable abbrev F_mkHdS : Func := f92
def kp_mkHdS : List (Nat × List Nat) := [(0, [0, 4, 2]), (1, [0, 4, 20, 2]), (2, [0, 4, 20, 36, 2]), (3, [0, 4, 20, 2]), (4, [0, 4, 20, 2]), (5, [0, 4, 20, 2]), (6, [0, 4, 20, 2]), (7, [0, 4, 20, 2]), (8, [16, 2])]
def ts_mkHdS : List Nat := [1, 0]
def st_mkHdS_1 (l : List Hd) (k : Int) (x4 : Int) (x20 : Int) (nx2 : Nat) (fx2 : Nat → Nat → T) : St := [(0, ⟨z0, [(false, [(C.ref 2 0 [0, 0] 2 0 l.length)])]⟩), (4, ⟨z0, [(false, [.tr true (T.int IntKind.i64 x4)])]⟩), (20, ⟨z0, [(false, [.tr true (T.int IntKind.i64 x20)])]⟩), (2, ⟨z0, [(false, [.tr true (.arr (2) (nx2) (fx2))])]⟩)]
def ex_mkHdS_1_1 (l : List Hd) (k : Int) (x4 : Int) (x20 : Int) (nx2 : Nat) (fx2 : Nat → Nat → T) : St := [(0, ⟨z0, [(false, [(C.ref 2 0 [0, 0] 2 0 l.length)])]⟩), (4, ⟨z0, [(false, [.tr true (T.int IntKind.i64 x4)])]⟩), (20, ⟨z0, [(false, [.tr true (T.int IntKind.i64 x20)])]⟩), (36, ⟨z0, []⟩), (2, ⟨z0, [(false, [.tr true (.arr (2) (nx2) (fx2))])]⟩)]
theorem round_mkHdS_1 (l : List Hd) (k : Int) (x4 : Int) (x20 : Int) (nx2 : Nat) (fx2 : Nat → Nat → T) (n : Nat) (K : Ex → St → Res) : roundAt prog (tabS []) kp_mkHdS F_mkHdS [1, 0, 1, 0] n (st_mkHdS_1 l k x4 x20 nx2 fx2) K = (
 bif decide (x20 < (↑l.length : Int)) then
  gd (decide (0 ≤ x20) && (x20.toNat.blt l.length && true)) <|
  gd ((0 + x20.toNat).blt nx2 && true && true) <|
  gd (decide (0 ≤ x20) && (x20.toNat.blt l.length && true)) <|
  gd ((0 + x20.toNat).blt nx2 && true && true) <|
  K .normal (st_mkHdS_1 l k (IntKind.i64.wrap (IntKind.i64.wrap (x4 + 1) + 1)) (IntKind.i64.wrap (x20 + 1)) (nx2) (setF (0 + x20.toNat) 1 (T.int IntKind.i64 (IntKind.i64.wrap (x4 + 1)))
  (setF (0 + x20.toNat) 0 (T.int IntKind.i64 x4) fx2)))
 else
 K (.exit 0) (ex_mkHdS_1_1 l k x4 x20 nx2 fx2)) := by kernel_rfl
theorem post_mkHdS_1_1 (l : List Hd) (k : Int) (x4 : Int) (x20 : Int) (nx2 : Nat) (fx2 : Nat → Nat → T) (n : Nat) : contAt prog (tabS []) kp_mkHdS F_mkHdS ts_mkHdS [1, 0, 1, 0] [] n (.exit 0) (ex_mkHdS_1_1 l k x4 x20 nx2 fx2) = (
 some ([(false, [.tr true (T.int IntKind.i64 x4)])], [(false, [.tr true (.arr (2) (nx2) (fx2))]), (false, [])])) := by kernel_rfl
theorem pre_mkHdS (l : List Hd) (k : Int) (n : Nat) : body prog (tabS []) kp_mkHdS n F_mkHdS [lT (eL 2 Hd.cs l), aI k] = (
 loopAt prog (tabS []) kp_mkHdS F_mkHdS [1, 0, 1, 0] n n (st_mkHdS_1 l k (k) (0) (T.ln (eL 2 Hd.cs l)) (T.fn (eL 2 Hd.cs l))) (contAt prog (tabS []) kp_mkHdS F_mkHdS ts_mkHdS [1, 0, 1, 0] [] n)) := by kernel_rfl
theorem body_mkHdS (l : List Hd) (k : Int) (h : okh_HdS (l, k)) : body prog (tabS []) kp_mkHdS (l.length + 1) F_mkHdS (eam_HdS (l, k)) = some ([oT (.int .i64 (f_ctHdS (l, k)))], [oT (eL 2 Hd.cs (f_mkHdS (l, k))), nul]) := by
  obtain ⟨hl, hk0, hk1⟩ := h
  have hbm := bm
  dsimp only at hl hk0 hk1
  have hl' : l.length ≤ BM := hl.1
  unfold eam_HdS f_ctHdS f_mkHdS
  dsimp only
  rw [pre_mkHdS]
  have hst : st_mkHdS_1 l k k 0 l.length (atL Hd.cs l) = (fun i : Nat => st_mkHdS_1 l k (k + cntL c1_HdS (l.take i)) (i : Nat) l.length (atL Hd.cs (mkd m1_HdS c1_HdS l k i))) 0 := by simp [cntL, mkd_zero]
  refine Eq.trans (congrArg (fun s => loopAt prog _ _ _ _ _ _ s _) hst) ?_
  rw [forLoop l.length (fun i : Nat => st_mkHdS_1 l k (k + cntL c1_HdS (l.take i)) (i : Nat) l.length (atL Hd.cs (mkd m1_HdS c1_HdS l k i))) (ex_mkHdS_1_1 l k (k + cntL c1_HdS l) l.length l.length (atL Hd.cs (mk_HdS l k))) 0 (fun i K hi => ?_) (fun K => ?_) _ (Nat.le_refl _)]
  · rw [post_mkHdS_1_1]
    have := markL_len m1_HdS c1_HdS l k
    rw [eL_T, show (mk_HdS l k).length = l.length from this]
    rfl
  · have hx := List.getElem?_eq_getElem hi
    obtain ⟨x, hxe⟩ : ∃ x, x = l[i] := ⟨_, rfl⟩
    rw [← hxe] at hx
    have hxm : x ∈ l := List.mem_of_getElem? hx
    have hg := mkd_get m1_HdS c1_HdS l k hx
    have hc := cntL_take c1_HdS l hx
    have hcl := cntL_le c1_HdS l (i + 1)
    have hcx : c1_HdS x = 1 + 1 := rfl
    
    rw [hc, round_mkHdS_1]
    have hms := mkd_set m1_HdS c1_HdS l k hx
    have hml : i < (mkd m1_HdS c1_HdS l k i).length := by rw [mkd_len _ _ _ _ (by omega)]; exact hi
    obtain ⟨k0, hk⟩ : ∃ k0, k0 = k + (cntL c1_HdS (l.take i) : Int) := ⟨_, rfl⟩
    have hk2 : k + ((cntL c1_HdS (l.take i) + c1_HdS x : Nat) : Int) = k0 + 1 + 1 := by omega
    rw [hk2]
    rw [← hk] at hms ⊢
    
    simp (disch := omega) only [lt_d, ge0_d, Int.toNat_natCast, blt_d, ble_self, beq_self, decide_true, cond_true, Bool.and_self, Bool.and_true, Bool.true_and, gd_true, Nat.zero_add, List.getD_cons_zero, List.getD_cons_succ, isI_int, toI_int, isB_bool, toB_bool, eL_T, arr_ln, arr_fn, arr_wd, arr_is, arr_get, hi, atL_of hg, Hd.cs, wrapI, wrapS, setF_d, and_self, if_true]
    rw [← hms]
    congr 2
    refine set_atL hml fun j' k' => ?_
    by_cases e : j' = i
    · subst e
      rcases k' with _ | _ | k' <;> simp [setF_d, Hd.cs, m1_HdS, atL_of hg, eL_T]
    · simp [setF_d, e]
  · rw [round_mkHdS_1, mkd_all]
    simp only [lt_d, Nat.lt_irrefl, decide_false, cond_false, List.take_length]
    rfl
theorem s_mkHdS : EntOk prog i_mkHdS e_mkHdS := ent_ok eam_HdS_inj fun x hx =>
  body_sound (φ := (tabS [])) tabS_nil mixed (kp := kp_mkHdS) (n := x.1.length + 1) func92 (c := bodyOf F_mkHdS) (by kernel_rfl) (body_mkHdS x.1 x.2 hx) (name_ok (by kernel_rfl))

theorem dm_hdHdS {l : List Hd} {k : Int} (h : okh_HdS (l, k)) : dom okh_HdS eah_HdS [(0, false, [C.tr false (T.arr 2 l.length (atL Hd.cs l))]), (0, false, [C.tr false (T.int IntKind.i64 k)])] = true := dom_ea (ea := eah_HdS) (x := (l, k)) h
theorem iv_hdHdS {l : List Hd} {k : Int} (h : okh_HdS (l, k)) : inv okh_HdS eah_HdS [(0, false, [C.tr false (T.arr 2 l.length (atL Hd.cs l))]), (0, false, [C.tr false (T.int IntKind.i64 k)])] = (l, k) := inv_ea eah_HdS_inj (x := (l, k)) h
theorem y_hdHdS {l : List Hd} {k : Int} (h : l = mk_HdS l k) : f_hdHdS (l, k) = k + cntL c1_HdS l := if_pos h
theorem n_hdHdS {l : List Hd} {k : Int} (h : ¬ l = mk_HdS l k) : f_hdHdS (l, k) = -1 := if_neg h
theorem dm_mkHdS {l : List Hd} {k : Int} (h : okh_HdS (l, k)) : dom okh_HdS eam_HdS [(1, false, [C.tr true (T.arr 2 l.length (atL Hd.cs l))]), (0, false, [C.tr false (T.int IntKind.i64 k)])] = true := dom_ea (ea := eam_HdS) (x := (l, k)) h
theorem iv_mkHdS {l : List Hd} {k : Int} (h : okh_HdS (l, k)) : inv okh_HdS eam_HdS [(1, false, [C.tr true (T.arr 2 l.length (atL Hd.cs l))]), (0, false, [C.tr false (T.int IntKind.i64 k)])] = (l, k) := inv_ea eam_HdS_inj (x := (l, k)) h
theorem len_mkHdS (l : List Hd) (k : Int) : (mk_HdS l k).length = l.length := markL_len _ _ _ _
theorem d_mkHdS (l : List Hd) (k : Int) : f_mkHdS (l, k) = mk_HdS l k := rfl
theorem d_ctHdS (l : List Hd) (k : Int) : f_ctHdS (l, k) = k + cntL c1_HdS l := rfl
def okz_HdS (l : List Hd) : Prop := l.length ≤ ZM
def n_HdS (l : List Hd) : Nat := l.length
def i_szHdS : Nat := 174
noncomputable abbrev F_szHdS : Func := f174
def kp_szHdS : List (Nat × List Nat) := [(0, [0, 4]), (1, [4]), (2, [4, 40]), (3, [16]), (4, [16])]
noncomputable def e_szHdS : Ent := inl [] prog (tabS []) kp_szHdS 0 F_szHdS
theorem s_szHdS : EntOk prog i_szHdS e_szHdS := inl_ok tabS_nil mixed (c := bodyOf F_szHdS) func174 (by kernel_rfl) (name_ok (by kernel_rfl))
theorem Sf.cs_inj (x y : Sf) (h : ∀ k, x.cs.getD k .hole = y.cs.getD k .hole) : x = y := by
  have h0 := h 0
  rcases x with ⟨x0⟩
  rcases y with ⟨y0⟩
  simp only [Sf.cs, List.getD_cons_zero, List.getD_cons_succ, T.int.injEq, T.bool.injEq, true_and] at h0
  replace h0 := eB_inj h0
  subst h0
  rfl
def i_toSf : Nat := 193
noncomputable abbrev F_toSf : Func := f193
def kp_toSf : List (Nat × List Nat) := [(0, [4, 5, 8, 9, 12, 13, 32]), (1, [4, 5, 8, 9, 12, 13, 32]), (2, [8, 9, 12, 13, 32]), (3, [8, 9, 12, 13, 32])]
noncomputable def e_toSf : Ent := inl [] prog (tabS [(i_toLB, e_toLB)]) kp_toSf 0 F_toSf
theorem s_toSf : EntOk prog i_toSf e_toSf := inl_ok (tabS_cons s_toLB tabS_nil) mixed (c := bodyOf F_toSf) func193 (by kernel_rfl) (name_ok (by kernel_rfl))
def i_eqSf : Nat := 156
noncomputable abbrev F_eqSf : Func := f156
def kp_eqSf : List (Nat × List Nat) := [(0, [8, 9, 12, 13]), (1, [40]), (2, [16]), (3, [16])]
noncomputable def e_eqSf : Ent := inl [] prog (tabS [(i_eqLB, e_eqLB)]) kp_eqSf 0 F_eqSf
theorem s_eqSf : EntOk prog i_eqSf e_eqSf := inl_ok (tabS_cons s_eqLB tabS_nil) mixed (c := bodyOf F_eqSf) func156 (by kernel_rfl) (name_ok (by kernel_rfl))
def i_szSf : Nat := 192
noncomputable abbrev F_szSf : Func := f192
def kp_szSf : List (Nat × List Nat) := [(0, [4, 8, 9]), (1, [4]), (2, [4, 40]), (3, [16]), (4, [16])]
noncomputable def e_szSf : Ent := inl [] prog (tabS [(i_szLB, e_szLB)]) kp_szSf 0 F_szSf
theorem s_szSf : EntOk prog i_szSf e_szSf := inl_ok (tabS_cons s_szLB tabS_nil) mixed (c := bodyOf F_szSf) func192 (by kernel_rfl) (name_ok (by kernel_rfl))
def ok_SfS (l : List Sf) : Prop := l.length ≤ LM ∧ ∀ x ∈ l, ok_LB x.b
def ea_SfS (l : List Sf) : List Arg := [aT (eL 1 Sf.cs l)]
noncomputable def e_toSfS : Ent := ent [] ok_SfS ea_SfS (fun l => erT 1 (eL 1 Sf.cs l)) fun l => l
def okq_SfS (l : List Sf) : Prop := l.length ≤ BM ∧ ∀ x ∈ l, okq_LB x.b
def ok2_SfS (x : List Sf × List Sf) : Prop := okq_SfS x.1
def ea2_SfS (x : List Sf × List Sf) : List Arg := [aT (eL 1 Sf.cs x.1), aT (eL 1 Sf.cs x.2)]
def f_eqSfS (x : List Sf × List Sf) : Bool := decide (x.1 = x.2)
noncomputable def e_eqSfS : Ent := ent [] ok2_SfS ea2_SfS (erB 2) f_eqSfS
theorem ea_SfS_inj (x y : List Sf) (h : ea_SfS x = ea_SfS y) : x = y := by
  simp only [ea_SfS, aT, List.cons.injEq, Prod.mk.injEq, true_and, and_true, C.tr.injEq] at h
  exact eL_inj Sf.cs_inj h
theorem ea2_SfS_inj (x y : List Sf × List Sf) (h : ea2_SfS x = ea2_SfS y) : x = y := by
  simp only [ea2_SfS, aT, List.cons.injEq, Prod.mk.injEq, true_and, and_true, C.tr.injEq] at h
  exact Prod.ext (eL_inj Sf.cs_inj h.1) (eL_inj Sf.cs_inj h.2)
def i_toSfS : Nat := 177
noncomputable abbrev F_toSfS : Func := f177
def kp_toSfS : List (Nat × List Nat) := [(0, [0]), (1, [0, 12]), (2, [0, 12, 16]), (3, [0, 12, 16, 44]), (4, [0, 12, 16]), (5, [0, 12, 16]), (6, [8])]
def ts_toSfS : List Nat := [0]
def st_toSfS_1 (l : List Sf) (nx12 : Nat) (fx12 : Nat → Nat → T) (x16 : Int) : St := [(0, ⟨z0, [(false, [.tr false (eL 1 Sf.cs l)])]⟩), (12, ⟨z0, [(false, [.tr true (.arr (1) (nx12) (fx12))])]⟩), (16, ⟨z0, [(false, [.tr true (T.int IntKind.i64 x16)])]⟩)]
def ex_toSfS_1_1 (l : List Sf) (nx12 : Nat) (fx12 : Nat → Nat → T) (x16 : Int) : St := [(0, ⟨z0, [(false, [.tr false (eL 1 Sf.cs l)])]⟩), (12, ⟨z0, [(false, [.tr true (.arr (1) (nx12) (fx12))])]⟩), (16, ⟨z0, [(false, [.tr true (T.int IntKind.i64 x16)])]⟩), (44, ⟨z0, []⟩)]
theorem round_toSfS_1 (l : List Sf) (nx12 : Nat) (fx12 : Nat → Nat → T) (x16 : Int) (n : Nat) (K : Ex → St → Res) : roundAt prog (tabS [(i_toSf, e_toSf)]) kp_toSfS F_toSfS [1, 1, 0, 1, 0] n (st_toSfS_1 l nx12 fx12 x16) K = (
 bif decide (x16 < (↑l.length : Int)) then
  gd (decide (0 ≤ x16) && (x16.toNat.blt l.length && true)) <|
  gd ((atL Sf.cs l x16.toNat 0).isArr && (atL Sf.cs l x16.toNat 0).wd.beq 1) <|
  gd (dom ok_LB ea_LB [(0, false, [C.tr false (T.arr 1 (atL Sf.cs l x16.toNat 0).ln (atL Sf.cs l x16.toNat 0).fn)])]) <|
  gd ((inv ok_LB ea_LB
          [(0, false, [C.tr false (T.arr 1 (atL Sf.cs l x16.toNat 0).ln (atL Sf.cs l x16.toNat 0).fn)])]).length.ble
    (inv ok_LB ea_LB
        [(0, false, [C.tr false (T.arr 1 (atL Sf.cs l x16.toNat 0).ln (atL Sf.cs l x16.toNat 0).fn)])]).length &&
  true) <|
  gd ((inv ok_LB ea_LB
          [(0, false, [C.tr false (T.arr 1 (atL Sf.cs l x16.toNat 0).ln (atL Sf.cs l x16.toNat 0).fn)])]).length.ble
    (inv ok_LB ea_LB
        [(0, false, [C.tr false (T.arr 1 (atL Sf.cs l x16.toNat 0).ln (atL Sf.cs l x16.toNat 0).fn)])]).length &&
  true) <|
  gd ((inv ok_LB ea_LB
          [(0, false, [C.tr false (T.arr 1 (atL Sf.cs l x16.toNat 0).ln (atL Sf.cs l x16.toNat 0).fn)])]).length.ble
    (inv ok_LB ea_LB
        [(0, false, [C.tr false (T.arr 1 (atL Sf.cs l x16.toNat 0).ln (atL Sf.cs l x16.toNat 0).fn)])]).length &&
  true) <|
  gd (decide (0 ≤ x16) && (x16.toNat.blt nx12 && true)) <|
  gd ((inv ok_LB ea_LB
          [(0, false, [C.tr false (T.arr 1 (atL Sf.cs l x16.toNat 0).ln (atL Sf.cs l x16.toNat 0).fn)])]).length.ble
    (inv ok_LB ea_LB
        [(0, false, [C.tr false (T.arr 1 (atL Sf.cs l x16.toNat 0).ln (atL Sf.cs l x16.toNat 0).fn)])]).length &&
  true) <|
  gd ((0 + x16.toNat).blt nx12 && true && true) <|
  K .normal (st_toSfS_1 l (nx12) (setF (0 + x16.toNat) 0
  (T.arr 1
    (inv ok_LB ea_LB
        [(0, false, [C.tr false (T.arr 1 (atL Sf.cs l x16.toNat 0).ln (atL Sf.cs l x16.toNat 0).fn)])]).length
    (atL rowB
      (inv ok_LB ea_LB
        [(0, false, [C.tr false (T.arr 1 (atL Sf.cs l x16.toNat 0).ln (atL Sf.cs l x16.toNat 0).fn)])])))
  fx12) (IntKind.i64.wrap (x16 + 1)))
 else
 K (.exit 0) (ex_toSfS_1_1 l nx12 fx12 x16)) := by kernel_rfl
theorem post_toSfS_1_1 (l : List Sf) (nx12 : Nat) (fx12 : Nat → Nat → T) (x16 : Int) (n : Nat) : contAt prog (tabS [(i_toSf, e_toSf)]) kp_toSfS F_toSfS ts_toSfS [1, 1, 0, 1, 0] [] n (.exit 0) (ex_toSfS_1_1 l nx12 fx12 x16) = (
 gd (nx12.ble nx12 && true) <|
 gd (nx12.ble nx12 && true) <|
 some ([(false, [.tr true (.arr (1) (nx12) (fx12))])], [(false, [])])) := by kernel_rfl
theorem pre_toSfS (l : List Sf) (n : Nat) : body prog (tabS [(i_toSf, e_toSf)]) kp_toSfS n F_toSfS [aT (eL 1 Sf.cs l)] = (
 gd (decide (0 ≤ (↑l.length : Int)) &&
  (decide ((↑l.length : Int) ≤ (↑l.length : Int)) &&
    (((↑l.length : Int).toNat * 24).ble 70368744177664 && (↑l.length : Int).toNat.ble 70368744177664))) <|
 gd ((↑l.length : Int).toNat.ble (↑l.length : Int).toNat && true) <|
 loopAt prog (tabS [(i_toSf, e_toSf)]) kp_toSfS F_toSfS [1, 1, 0, 1, 0] n n (st_toSfS_1 l ((↑l.length : Int).toNat) (cutT 0 (↑l.length : Int).toNat (zeroT prog 114)) (0)) (contAt prog (tabS [(i_toSf, e_toSf)]) kp_toSfS F_toSfS ts_toSfS [1, 1, 0, 1, 0] [] n)) := by kernel_rfl
theorem body_toSfS (l : List Sf) (hl : ok_SfS l) : body prog (tabS [(i_toSf, e_toSf)]) kp_toSfS (l.length + 1) F_toSfS (ea_SfS l) = some (erT 1 (eL 1 Sf.cs l)) := by
  have hl' : l.length ≤ LM := hl.1
  have hlm := lm
  unfold ea_SfS
  rw [pre_toSfS]
  simp only [ge0_d, Int.toNat_natCast, ble_d, Int.le_refl, Nat.le_refl, decide_true, Bool.and_true, Bool.true_and, gd_true]
  rw [decide_eq_true (show l.length * 24 ≤ 70368744177664 by omega), decide_eq_true (show l.length ≤ 70368744177664 by omega)]
  simp only [Bool.and_true, gd_true]
  rw [zero_fill (m := 1) (row := Sf.cs) (d := default) l.length (fun j k => by rcases k with _ | _ <;> kernel_rfl), ← fill_zero l default]
  have hst : st_toSfS_1 l l.length (atL Sf.cs (fill l default 0)) 0 = (fun i : Nat => st_toSfS_1 l l.length (atL Sf.cs (fill l default i)) (i : Nat)) 0 := rfl
  rw [hst, forLoop l.length (fun i : Nat => st_toSfS_1 l l.length (atL Sf.cs (fill l default i)) (i : Nat)) (ex_toSfS_1_1 l l.length (atL Sf.cs l) l.length) 0 (fun i K hi => ?_) (fun K => ?_) _ (Nat.le_refl _)]
  · rw [post_toSfS_1_1]
    simp only [ble_d, Nat.le_refl, decide_true, gd_true, Bool.and_true]
    rfl
  · have hx := List.getElem?_eq_getElem hi
    have h0 := (hl.2 _ (List.getElem_mem hi))
    have hd : (fill l default i)[i]? = some default := by
      unfold fill
      rw [List.getElem?_append_right (by simp; omega), List.getElem?_replicate, if_pos (by simp; omega)]
    rw [round_toSfS_1]
    simp only [lt_d, ge0_d, Int.toNat_natCast, blt_d, ble_self, beq_self, decide_true, cond_true, Bool.and_self, Bool.and_true, Bool.true_and, gd_true, Nat.zero_add, List.getD_cons_zero, List.getD_cons_succ, isI_int, toI_int, isB_bool, toB_bool, eL_T, arr_ln, arr_fn, arr_wd, arr_is, arr_get, hi, atL_of hx, Sf.cs, dm_toLB h0, iv_toLB h0]
    rw [wrapS (by omega), ← fill_set l default hx]
    congr 3
    refine set_atL (by rw [fill_len l default (by omega)]; exact hi) fun j' k' => ?_
    by_cases e : j' = i
    · subst e
      rcases k' with _ | k' <;> simp [setF_d, Sf.cs, atL_of hd, eL_T]
    · simp [setF_d, e]
  · rw [round_toSfS_1, fill_all]
    simp only [lt_d, Nat.lt_irrefl, decide_false, cond_false]
theorem s_toSfS : EntOk prog i_toSfS e_toSfS := ent_ok ea_SfS_inj fun l hl =>
  body_sound (φ := (tabS [(i_toSf, e_toSf)])) (tabS_cons s_toSf tabS_nil) mixed (kp := kp_toSfS) (n := l.length + 1) func177 (c := bodyOf F_toSfS) (by kernel_rfl) (body_toSfS l hl) (name_ok (by kernel_rfl))

def i_eqSfS : Nat := 91
noncomputable abbrev F_eqSfS : Func := f91
def kp_eqSfS : List (Nat × List Nat) := [(0, [0, 4]), (1, [0, 4, 40]), (2, [16]), (3, [0, 4, 20]), (4, [0, 4, 20, 56]), (5, [0, 4, 20]), (6, [0, 4, 20, 104]), (7, [16]), (8, [16])]
def ts_eqSfS : List Nat := [0, 0]
def st_eqSfS_1 (l r : List Sf) (x20 : Int) : St := [(0, ⟨z0, [(false, [.tr false (eL 1 Sf.cs l)])]⟩), (4, ⟨z0, [(false, [.tr false (eL 1 Sf.cs r)])]⟩), (20, ⟨z0, [(false, [.tr true (T.int IntKind.i64 x20)])]⟩)]
def ex_eqSfS_1_1 (l r : List Sf) (x20 : Int) : St := [(16, ⟨z0, [(false, [.tr true (T.bool false)])]⟩)]
def ex_eqSfS_1_2 (l r : List Sf) (x20 : Int) : St := [(0, ⟨z0, [(false, [.tr false (eL 1 Sf.cs l)])]⟩), (4, ⟨z0, [(false, [.tr false (eL 1 Sf.cs r)])]⟩), (20, ⟨z0, [(false, [.tr true (T.int IntKind.i64 x20)])]⟩), (56, ⟨z0, []⟩)]
theorem round_eqSfS_1 (l r : List Sf) (x20 : Int) (n : Nat) (K : Ex → St → Res) : roundAt prog (tabS [(i_eqSf, e_eqSf)]) kp_eqSfS F_eqSfS [1, 1, 0, 1, 0] n (st_eqSfS_1 l r x20) K = (
 bif decide (x20 < (↑l.length : Int)) then
  gd (decide (0 ≤ x20) && (x20.toNat.blt l.length && true)) <|
  gd ((atL Sf.cs l x20.toNat 0).isArr && (atL Sf.cs l x20.toNat 0).wd.beq 1) <|
  gd (decide (0 ≤ x20) && (x20.toNat.blt r.length && true)) <|
  gd ((atL Sf.cs r x20.toNat 0).isArr && (atL Sf.cs r x20.toNat 0).wd.beq 1) <|
  gd (dom ok2_LB ea2_LB
  [(0, false, [C.tr false (T.arr 1 (atL Sf.cs l x20.toNat 0).ln (atL Sf.cs l x20.toNat 0).fn)]),
    (0, false, [C.tr false (T.arr 1 (atL Sf.cs r x20.toNat 0).ln (atL Sf.cs r x20.toNat 0).fn)])]) <|
  bif !f_eqLB
    (inv ok2_LB ea2_LB
      [(0, false, [C.tr false (T.arr 1 (atL Sf.cs l x20.toNat 0).ln (atL Sf.cs l x20.toNat 0).fn)]),
        (0, false, [C.tr false (T.arr 1 (atL Sf.cs r x20.toNat 0).ln (atL Sf.cs r x20.toNat 0).fn)])]) then
   K .ret (ex_eqSfS_1_1 l r x20)
  else
  K .normal (st_eqSfS_1 l r (IntKind.i64.wrap (x20 + 1)))
 else
 K (.exit 0) (ex_eqSfS_1_2 l r x20)) := by kernel_rfl
theorem post_eqSfS_1_1 (l r : List Sf) (x20 : Int) (n : Nat) : contAt prog (tabS [(i_eqSf, e_eqSf)]) kp_eqSfS F_eqSfS ts_eqSfS [1, 1, 0, 1, 0] [] n .ret (ex_eqSfS_1_1 l r x20) = (
 some ([(false, [.tr true (T.bool false)])], [(false, []), (false, [])])) := by kernel_rfl
theorem post_eqSfS_1_2 (l r : List Sf) (x20 : Int) (n : Nat) : contAt prog (tabS [(i_eqSf, e_eqSf)]) kp_eqSfS F_eqSfS ts_eqSfS [1, 1, 0, 1, 0] [] n (.exit 0) (ex_eqSfS_1_2 l r x20) = (
 some ([(false, [.tr true (T.bool true)])], [(false, []), (false, [])])) := by kernel_rfl
theorem pre_eqSfS (l r : List Sf) (n : Nat) : body prog (tabS [(i_eqSf, e_eqSf)]) kp_eqSfS n F_eqSfS [aT (eL 1 Sf.cs l), aT (eL 1 Sf.cs r)] = (
 bif (↑l.length : Int) != (↑r.length : Int) then
  some ([(false, [.tr true (T.bool false)])], [(false, []), (false, [])])
 else
 loopAt prog (tabS [(i_eqSf, e_eqSf)]) kp_eqSfS F_eqSfS [1, 1, 0, 1, 0] n n (st_eqSfS_1 l r (0)) (contAt prog (tabS [(i_eqSf, e_eqSf)]) kp_eqSfS F_eqSfS ts_eqSfS [1, 1, 0, 1, 0] [] n)) := by kernel_rfl
theorem body_eqSfS (l r : List Sf) (hl : okq_SfS l) : body prog (tabS [(i_eqSf, e_eqSf)]) kp_eqSfS (l.length + 1) F_eqSfS (ea2_SfS (l, r)) = some (erB 2 (f_eqSfS (l, r))) := by
  have hbm := bm
  have hl' : l.length ≤ BM := hl.1
  unfold ea2_SfS f_eqSfS
  dsimp only
  rw [pre_eqSfS, int_ne]
  by_cases h : l.length = r.length
  · rw [decide_eq_true (by omega)]
    simp only [Bool.not_true, cond_false]
    have hst : st_eqSfS_1 l r 0 = (fun i : Nat => st_eqSfS_1 l r (i : Nat)) 0 := rfl
    rw [hst, eqS l r h (fun i : Nat => st_eqSfS_1 l r (i : Nat)) (fun i : Nat => ex_eqSfS_1_1 l r (i : Nat)) (ex_eqSfS_1_2 l r l.length) (fun i x y K hx hy => ?_) (fun K => ?_) (fun i => post_eqSfS_1_1 l r _ _) (post_eqSfS_1_2 l r _ _) _ (Nat.le_refl _)]
    · by_cases e : l = r
      · rw [if_pos e, decide_eq_true e]; rfl
      · rw [if_neg e, decide_eq_false e]; rfl
    · have hi := (List.getElem?_eq_some_iff.1 hx).1
      have hi' := (List.getElem?_eq_some_iff.1 hy).1
      have hxm : x ∈ l := List.mem_of_getElem? hx
      have h0 := (hl.2 _ hxm)
      rw [round_eqSfS_1]
      simp only [lt_d, ge0_d, Int.toNat_natCast, blt_d, ble_self, beq_self, decide_true, cond_true, Bool.and_self, Bool.and_true, Bool.true_and, gd_true, Nat.zero_add, List.getD_cons_zero, List.getD_cons_succ, isI_int, toI_int, isB_bool, toB_bool, eL_T, arr_ln, arr_fn, arr_wd, arr_is, arr_get, hi, hi', atL_of hx, atL_of hy, Sf.cs, int_ne, bool_ne, bool_eq, dm_eqLB h0, iv_eqLB h0, d_eqLB, chain]
      rw [wrapS (by omega)]
      have hxy : (x.b = y.b) ↔ x = y := by
        rcases x with ⟨x0⟩
        rcases y with ⟨y0⟩
        simp [and_assoc]
      simp only [hxy]
    · rw [round_eqSfS_1]
      simp only [lt_d, Nat.lt_irrefl, decide_false, cond_false]
  · rw [decide_eq_false (by omega)]
    have : ¬ l = r := fun e => h (by rw [e])
    rw [decide_eq_false this]
    rfl
theorem s_eqSfS : EntOk prog i_eqSfS e_eqSfS := ent_ok ea2_SfS_inj fun x hx =>
  body_sound (φ := (tabS [(i_eqSf, e_eqSf)])) (tabS_cons s_eqSf tabS_nil) mixed (kp := kp_eqSfS) (n := x.1.length + 1) func91 (c := bodyOf F_eqSfS) (by kernel_rfl) (body_eqSfS x.1 x.2 hx) (name_ok (by kernel_rfl))

theorem dm_toSfS {l : List Sf} (h : ok_SfS l) : dom ok_SfS ea_SfS [(0, false, [C.tr false (T.arr 1 l.length (atL Sf.cs l))])] = true := dom_ea (ea := ea_SfS) (x := l) h
theorem iv_toSfS {l : List Sf} (h : ok_SfS l) : inv ok_SfS ea_SfS [(0, false, [C.tr false (T.arr 1 l.length (atL Sf.cs l))])] = l := inv_ea ea_SfS_inj (x := l) h
theorem dm_eqSfS {l r : List Sf} (h : okq_SfS l) : dom ok2_SfS ea2_SfS [(0, false, [C.tr false (T.arr 1 l.length (atL Sf.cs l))]), (0, false, [C.tr false (T.arr 1 r.length (atL Sf.cs r))])] = true := dom_ea (ea := ea2_SfS) (x := (l, r)) h
theorem iv_eqSfS {l r : List Sf} (h : okq_SfS l) : inv ok2_SfS ea2_SfS [(0, false, [C.tr false (T.arr 1 l.length (atL Sf.cs l))]), (0, false, [C.tr false (T.arr 1 r.length (atL Sf.cs r))])] = (l, r) := inv_ea ea2_SfS_inj (x := (l, r)) h
theorem d_eqSfS (l r : List Sf) : f_eqSfS (l, r) = decide (l = r) := rfl
def m1_SfS (x : Sf) (k : Int) : Sf := ⟨(mk_LB x.b (k))⟩
def c1_SfS (x : Sf) : Nat := cntL c1_LB x.b
def okh_SfS (x : List Sf × Int) : Prop := okq_SfS x.1 ∧ 0 ≤ x.2 ∧ x.2 + cntL c1_SfS x.1 ≤ BM
def eah_SfS (x : List Sf × Int) : List Arg := [aT (eL 1 Sf.cs x.1), aI x.2]
def eam_SfS (x : List Sf × Int) : List Arg := [lT (eL 1 Sf.cs x.1), aI x.2]
def mk_SfS (l : List Sf) (k : Int) : List Sf := markL m1_SfS c1_SfS l k
def f_hdSfS (x : List Sf × Int) : Int := if x.1 = mk_SfS x.1 x.2 then x.2 + cntL c1_SfS x.1 else -1
def f_mkSfS (x : List Sf × Int) : List Sf := mk_SfS x.1 x.2
def f_ctSfS (x : List Sf × Int) : Int := x.2 + cntL c1_SfS x.1
noncomputable def e_hdSfS : Ent := ent [] okh_SfS eah_SfS (erI 2) f_hdSfS
noncomputable def e_mkSfS : Ent := ent [1] okh_SfS eam_SfS (fun x => ([oT (.int .i64 (f_ctSfS x))], [oT (eL 1 Sf.cs (f_mkSfS x)), nul])) fun x => x
theorem eah_SfS_inj (x y : List Sf × Int) (h : eah_SfS x = eah_SfS y) : x = y := by
  simp only [eah_SfS, aI, aT, List.cons.injEq, Prod.mk.injEq, true_and, and_true, C.tr.injEq, T.int.injEq] at h
  exact Prod.ext (eL_inj Sf.cs_inj h.1) h.2
theorem eam_SfS_inj (x y : List Sf × Int) (h : eam_SfS x = eam_SfS y) : x = y := by
  simp only [eam_SfS, lT, aI, aT, List.cons.injEq, Prod.mk.injEq, true_and, and_true, C.tr.injEq, T.int.injEq] at h
  exact Prod.ext (eL_inj Sf.cs_inj h.1) h.2
def i_hdSfS : Nat := 95
noncomputable abbrev F_hdSfS : Func := f95
def kp_hdSfS : List (Nat × List Nat) := [(0, [0, 4]), (1, [0, 4, 20]), (2, [0, 4, 20, 36]), (3, [0, 4, 20]), (4, [0, 4, 20]), (5, [0, 4, 20, 80]), (6, [16]), (7, [16])]
def ts_hdSfS : List Nat := [0, 0]
def st_hdSfS_1 (l : List Sf) (k : Int) (x4 : Int) (x20 : Int) : St := [(0, ⟨z0, [(false, [.tr false (eL 1 Sf.cs l)])]⟩), (4, ⟨z0, [(false, [.tr true (T.int IntKind.i64 x4)])]⟩), (20, ⟨z0, [(false, [.tr true (T.int IntKind.i64 x20)])]⟩)]
def ex_hdSfS_1_1 (l : List Sf) (k : Int) (x4 : Int) (x20 : Int) : St := [(16, ⟨z0, [(false, [.tr true (T.int IntKind.i64 (-1))])]⟩)]
def ex_hdSfS_1_2 (l : List Sf) (k : Int) (x4 : Int) (x20 : Int) : St := [(0, ⟨z0, [(false, [.tr false (eL 1 Sf.cs l)])]⟩), (4, ⟨z0, [(false, [.tr true (T.int IntKind.i64 x4)])]⟩), (20, ⟨z0, [(false, [.tr true (T.int IntKind.i64 x20)])]⟩), (36, ⟨z0, []⟩)]
theorem round_hdSfS_1 (l : List Sf) (k : Int) (x4 : Int) (x20 : Int) (n : Nat) (K : Ex → St → Res) : roundAt prog (tabS [(i_hdLB, e_hdLB)]) kp_hdSfS F_hdSfS [1, 0, 1, 0] n (st_hdSfS_1 l k x4 x20) K = (
 bif decide (x20 < (↑l.length : Int)) then
  gd (decide (0 ≤ x20) && (x20.toNat.blt l.length && true)) <|
  gd ((atL Sf.cs l x20.toNat 0).isArr && (atL Sf.cs l x20.toNat 0).wd.beq 1) <|
  gd (dom okh_LB eah_LB
  [(0, false, [C.tr false (T.arr 1 (atL Sf.cs l x20.toNat 0).ln (atL Sf.cs l x20.toNat 0).fn)]),
    (0, false, [C.tr false (T.int IntKind.i64 x4)])]) <|
  bif decide
  (f_hdLB
      (inv okh_LB eah_LB
        [(0, false, [C.tr false (T.arr 1 (atL Sf.cs l x20.toNat 0).ln (atL Sf.cs l x20.toNat 0).fn)]),
          (0, false, [C.tr false (T.int IntKind.i64 x4)])]) <
    0) then
   K .ret (ex_hdSfS_1_1 l k x4 x20)
  else
  K .normal (st_hdSfS_1 l k (f_hdLB
  (inv okh_LB eah_LB
    [(0, false, [C.tr false (T.arr 1 (atL Sf.cs l x20.toNat 0).ln (atL Sf.cs l x20.toNat 0).fn)]),
      (0, false, [C.tr false (T.int IntKind.i64 x4)])])) (IntKind.i64.wrap (x20 + 1)))
 else
 K (.exit 0) (ex_hdSfS_1_2 l k x4 x20)) := by kernel_rfl
theorem post_hdSfS_1_1 (l : List Sf) (k : Int) (x4 : Int) (x20 : Int) (n : Nat) : contAt prog (tabS [(i_hdLB, e_hdLB)]) kp_hdSfS F_hdSfS ts_hdSfS [1, 0, 1, 0] [] n .ret (ex_hdSfS_1_1 l k x4 x20) = (
 some ([(false, [.tr true (T.int IntKind.i64 (-1))])], [(false, []), (false, [])])) := by kernel_rfl
theorem post_hdSfS_1_2 (l : List Sf) (k : Int) (x4 : Int) (x20 : Int) (n : Nat) : contAt prog (tabS [(i_hdLB, e_hdLB)]) kp_hdSfS F_hdSfS ts_hdSfS [1, 0, 1, 0] [] n (.exit 0) (ex_hdSfS_1_2 l k x4 x20) = (
 some ([(false, [.tr true (T.int IntKind.i64 x4)])], [(false, []), (false, [])])) := by kernel_rfl
theorem pre_hdSfS (l : List Sf) (k : Int) (n : Nat) : body prog (tabS [(i_hdLB, e_hdLB)]) kp_hdSfS n F_hdSfS [aT (eL 1 Sf.cs l), aI k] = (
 loopAt prog (tabS [(i_hdLB, e_hdLB)]) kp_hdSfS F_hdSfS [1, 0, 1, 0] n n (st_hdSfS_1 l k (k) (0)) (contAt prog (tabS [(i_hdLB, e_hdLB)]) kp_hdSfS F_hdSfS ts_hdSfS [1, 0, 1, 0] [] n)) := by kernel_rfl
theorem body_hdSfS (l : List Sf) (k : Int) (h : okh_SfS (l, k)) : body prog (tabS [(i_hdLB, e_hdLB)]) kp_hdSfS (l.length + 1) F_hdSfS (eah_SfS (l, k)) = some (erI 2 (f_hdSfS (l, k))) := by
  obtain ⟨hl, hk0, hk1⟩ := h
  have hbm := bm
  dsimp only at hl hk0 hk1
  have hl' : l.length ≤ BM := hl.1
  unfold eah_SfS f_hdSfS
  dsimp only
  rw [pre_hdSfS]
  have hst : st_hdSfS_1 l k k 0 = (fun i : Nat => st_hdSfS_1 l k (k + cntL c1_SfS (l.take i)) (i : Nat)) 0 := by simp [cntL]
  rw [hst, heldS m1_SfS c1_SfS l k (fun i : Nat => st_hdSfS_1 l k (k + cntL c1_SfS (l.take i)) (i : Nat)) (fun i : Nat => ex_hdSfS_1_1 l k (k + cntL c1_SfS (l.take i)) (i : Nat)) (ex_hdSfS_1_2 l k (k + cntL c1_SfS l) l.length) (fun i x K hx => ?_) (fun K => ?_) (fun i => post_hdSfS_1_1 l k _ _ _) (post_hdSfS_1_2 l k _ _ _) _ (Nat.le_refl _)]
  · unfold mk_SfS
    split <;> rfl
  · have hi := (List.getElem?_eq_some_iff.1 hx).1
    have hxm : x ∈ l := List.mem_of_getElem? hx
    have hc := cntL_take c1_SfS l hx
    have hcl := cntL_le c1_SfS l (i + 1)
    have hcx : c1_SfS x = cntL c1_LB x.b := rfl
    have h0 := (hl.2 _ hxm)
    rw [hc, round_hdSfS_1]
    obtain ⟨k0, hk⟩ : ∃ k0, k0 = k + (cntL c1_SfS (l.take i) : Int) := ⟨_, rfl⟩
    have hk2 : k + ((cntL c1_SfS (l.take i) + c1_SfS x : Nat) : Int) = k0 + cntL c1_LB x.b := by omega
    rw [hk2, ← hk]
    have g0 : okh_LB (x.b, k0) := ⟨h0, by dsimp only; omega, by dsimp only; omega⟩
    simp (disch := omega) only [lt_d, ge0_d, Int.toNat_natCast, blt_d, ble_self, beq_self, decide_true, cond_true, Bool.and_self, Bool.and_true, Bool.true_and, gd_true, Nat.zero_add, List.getD_cons_zero, List.getD_cons_succ, isI_int, toI_int, isB_bool, toB_bool, eL_T, arr_ln, arr_fn, arr_wd, arr_is, arr_get, hi, atL_of hx, Sf.cs, int_ne, bool_ne, wrapI, wrapS]
    simp only [dm_hdLB g0, iv_hdLB g0, gd_true]
    by_cases e0 : x.b = mk_LB x.b (k0)
    case neg =>
      simp only [n_hdLB e0]
      rw [decide_eq_false (show ¬ x = m1_SfS x k0 from fun e => e0 (congrArg (fun z : Sf => z.b) e))]
      rfl
    simp only [y_hdLB e0]
    rw [decide_eq_false (show ¬ k0 + (cntL c1_LB x.b : Int) < 0 by omega)]
    simp (disch := omega) only [cond_false, wrapI]
    have hm : x = m1_SfS x k0 := by
      rcases x with ⟨x0⟩
      simp only [m1_SfS, Sf.mk.injEq]
      exact e0
    rw [decide_eq_true hm]
    simp only [Bool.not_true, cond_false]
    congr 2
  · rw [round_hdSfS_1]
    simp only [lt_d, Nat.lt_irrefl, decide_false, cond_false, List.take_length]
theorem s_hdSfS : EntOk prog i_hdSfS e_hdSfS := ent_ok eah_SfS_inj fun x hx =>
  body_sound (φ := (tabS [(i_hdLB, e_hdLB)])) (tabS_cons s_hdLB tabS_nil) mixed (kp := kp_hdSfS) (n := x.1.length + 1) func95 (c := bodyOf F_hdSfS) (by kernel_rfl) (body_hdSfS x.1 x.2 hx) (name_ok (by kernel_rfl))

def i_mkSfS : Nat := 93
noncomputable abbrev F_mkSfS : Func := f93
def kp_mkSfS : List (Nat × List Nat) := [(0, [0, 4, 2]), (1, [0, 4, 20, 2]), (2, [0, 4, 20, 36, 2]), (3, [0, 4, 20, 2]), (4, [0, 4, 20, 2]), (5, [16, 2])]
def ts_mkSfS : List Nat := [1, 0]
def st_mkSfS_1 (l : List Sf) (k : Int) (x4 : Int) (x20 : Int) (nx2 : Nat) (fx2 : Nat → Nat → T) : St := [(0, ⟨z0, [(false, [(C.ref 2 0 [0, 0] 1 0 l.length)])]⟩), (4, ⟨z0, [(false, [.tr true (T.int IntKind.i64 x4)])]⟩), (20, ⟨z0, [(false, [.tr true (T.int IntKind.i64 x20)])]⟩), (2, ⟨z0, [(false, [.tr true (.arr (1) (nx2) (fx2))])]⟩)]
def ex_mkSfS_1_1 (l : List Sf) (k : Int) (x4 : Int) (x20 : Int) (nx2 : Nat) (fx2 : Nat → Nat → T) : St := [(0, ⟨z0, [(false, [(C.ref 2 0 [0, 0] 1 0 l.length)])]⟩), (4, ⟨z0, [(false, [.tr true (T.int IntKind.i64 x4)])]⟩), (20, ⟨z0, [(false, [.tr true (T.int IntKind.i64 x20)])]⟩), (36, ⟨z0, []⟩), (2, ⟨z0, [(false, [.tr true (.arr (1) (nx2) (fx2))])]⟩)]
theorem round_mkSfS_1 (l : List Sf) (k : Int) (x4 : Int) (x20 : Int) (nx2 : Nat) (fx2 : Nat → Nat → T) (n : Nat) (K : Ex → St → Res) : roundAt prog (tabS [(i_mkLB, e_mkLB)]) kp_mkSfS F_mkSfS [1, 0, 1, 0] n (st_mkSfS_1 l k x4 x20 nx2 fx2) K = (
 bif decide (x20 < (↑l.length : Int)) then
  gd (decide (0 ≤ x20) && (x20.toNat.blt l.length && true)) <|
  gd ((0 + x20.toNat).blt nx2 && true && ((fx2 (0 + x20.toNat) (0 + 0)).isArr && (fx2 (0 + x20.toNat) (0 + 0)).wd.beq 1)) <|
  gd ((0 + x20.toNat).blt nx2 && true && true && ((T.arr 1 nx2 fx2).get [0 + x20.toNat, 0 + 0]).isArr) <|
  gd ((fx2 (0 + x20.toNat) (0 + 0)).ln.beq ((T.arr 1 nx2 fx2).get [0 + x20.toNat, 0 + 0]).ln &&
  Nat.beq 1 ((T.arr 1 nx2 fx2).get [0 + x20.toNat, 0 + 0]).wd) <|
  gd (dom okh_LB eam_LB
  [(1, false, [C.tr true (T.arr 1 (fx2 (0 + x20.toNat) (0 + 0)).ln ((T.arr 1 nx2 fx2).get [0 + x20.toNat, 0 + 0]).fn)]),
    (0, false, [C.tr false (T.int IntKind.i64 x4)])]) <|
  gd ((fx2 (0 + x20.toNat) (0 + 0)).ln.beq
    (f_mkLB
        (inv okh_LB eam_LB
          [(1, false,
              [C.tr true (T.arr 1 (fx2 (0 + x20.toNat) (0 + 0)).ln ((T.arr 1 nx2 fx2).get [0 + x20.toNat, 0 + 0]).fn)]),
            (0, false, [C.tr false (T.int IntKind.i64 x4)])])).length &&
  ((0 + x20.toNat).blt nx2 && true && true)) <|
  K .normal (st_mkSfS_1 l k (f_ctLB
  (inv okh_LB eam_LB
    [(1, false,
        [C.tr true (T.arr 1 (fx2 (0 + x20.toNat) (0 + 0)).ln ((T.arr 1 nx2 fx2).get [0 + x20.toNat, 0 + 0]).fn)]),
      (0, false, [C.tr false (T.int IntKind.i64 x4)])])) (IntKind.i64.wrap (x20 + 1)) (nx2) (setF (0 + x20.toNat) (0 + 0)
  (T.arr 1
    (f_mkLB
        (inv okh_LB eam_LB
          [(1, false,
              [C.tr true (T.arr 1 (fx2 (0 + x20.toNat) (0 + 0)).ln ((T.arr 1 nx2 fx2).get [0 + x20.toNat, 0 + 0]).fn)]),
            (0, false, [C.tr false (T.int IntKind.i64 x4)])])).length
    (atL rowB
      (f_mkLB
        (inv okh_LB eam_LB
          [(1, false,
              [C.tr true (T.arr 1 (fx2 (0 + x20.toNat) (0 + 0)).ln ((T.arr 1 nx2 fx2).get [0 + x20.toNat, 0 + 0]).fn)]),
            (0, false, [C.tr false (T.int IntKind.i64 x4)])]))))
  (setF (0 + x20.toNat) (0 + 0) (T.lent 1 (fx2 (0 + x20.toNat) (0 + 0)).ln) fx2)))
 else
 K (.exit 0) (ex_mkSfS_1_1 l k x4 x20 nx2 fx2)) := by kernel_rfl
theorem post_mkSfS_1_1 (l : List Sf) (k : Int) (x4 : Int) (x20 : Int) (nx2 : Nat) (fx2 : Nat → Nat → T) (n : Nat) : contAt prog (tabS [(i_mkLB, e_mkLB)]) kp_mkSfS F_mkSfS ts_mkSfS [1, 0, 1, 0] [] n (.exit 0) (ex_mkSfS_1_1 l k x4 x20 nx2 fx2) = (
 some ([(false, [.tr true (T.int IntKind.i64 x4)])], [(false, [.tr true (.arr (1) (nx2) (fx2))]), (false, [])])) := by kernel_rfl
theorem pre_mkSfS (l : List Sf) (k : Int) (n : Nat) : body prog (tabS [(i_mkLB, e_mkLB)]) kp_mkSfS n F_mkSfS [lT (eL 1 Sf.cs l), aI k] = (
 loopAt prog (tabS [(i_mkLB, e_mkLB)]) kp_mkSfS F_mkSfS [1, 0, 1, 0] n n (st_mkSfS_1 l k (k) (0) (T.ln (eL 1 Sf.cs l)) (T.fn (eL 1 Sf.cs l))) (contAt prog (tabS [(i_mkLB, e_mkLB)]) kp_mkSfS F_mkSfS ts_mkSfS [1, 0, 1, 0] [] n)) := by kernel_rfl
theorem body_mkSfS (l : List Sf) (k : Int) (h : okh_SfS (l, k)) : body prog (tabS [(i_mkLB, e_mkLB)]) kp_mkSfS (l.length + 1) F_mkSfS (eam_SfS (l, k)) = some ([oT (.int .i64 (f_ctSfS (l, k)))], [oT (eL 1 Sf.cs (f_mkSfS (l, k))), nul]) := by
  obtain ⟨hl, hk0, hk1⟩ := h
  have hbm := bm
  dsimp only at hl hk0 hk1
  have hl' : l.length ≤ BM := hl.1
  unfold eam_SfS f_ctSfS f_mkSfS
  dsimp only
  rw [pre_mkSfS]
  have hst : st_mkSfS_1 l k k 0 l.length (atL Sf.cs l) = (fun i : Nat => st_mkSfS_1 l k (k + cntL c1_SfS (l.take i)) (i : Nat) l.length (atL Sf.cs (mkd m1_SfS c1_SfS l k i))) 0 := by simp [cntL, mkd_zero]
  refine Eq.trans (congrArg (fun s => loopAt prog _ _ _ _ _ _ s _) hst) ?_
  rw [forLoop l.length (fun i : Nat => st_mkSfS_1 l k (k + cntL c1_SfS (l.take i)) (i : Nat) l.length (atL Sf.cs (mkd m1_SfS c1_SfS l k i))) (ex_mkSfS_1_1 l k (k + cntL c1_SfS l) l.length l.length (atL Sf.cs (mk_SfS l k))) 0 (fun i K hi => ?_) (fun K => ?_) _ (Nat.le_refl _)]
  · rw [post_mkSfS_1_1]
    have := markL_len m1_SfS c1_SfS l k
    rw [eL_T, show (mk_SfS l k).length = l.length from this]
    rfl
  · have hx := List.getElem?_eq_getElem hi
    obtain ⟨x, hxe⟩ : ∃ x, x = l[i] := ⟨_, rfl⟩
    rw [← hxe] at hx
    have hxm : x ∈ l := List.mem_of_getElem? hx
    have hg := mkd_get m1_SfS c1_SfS l k hx
    have hc := cntL_take c1_SfS l hx
    have hcl := cntL_le c1_SfS l (i + 1)
    have hcx : c1_SfS x = cntL c1_LB x.b := rfl
    have h0 := (hl.2 _ hxm)
    rw [hc, round_mkSfS_1]
    have hms := mkd_set m1_SfS c1_SfS l k hx
    have hml : i < (mkd m1_SfS c1_SfS l k i).length := by rw [mkd_len _ _ _ _ (by omega)]; exact hi
    obtain ⟨k0, hk⟩ : ∃ k0, k0 = k + (cntL c1_SfS (l.take i) : Int) := ⟨_, rfl⟩
    have hk2 : k + ((cntL c1_SfS (l.take i) + c1_SfS x : Nat) : Int) = k0 + cntL c1_LB x.b := by omega
    rw [hk2]
    rw [← hk] at hms ⊢
    have g0 : okh_LB (x.b, k0) := ⟨h0, by dsimp only; omega, by dsimp only; omega⟩
    simp (disch := omega) only [lt_d, ge0_d, Int.toNat_natCast, blt_d, ble_self, beq_self, decide_true, cond_true, Bool.and_self, Bool.and_true, Bool.true_and, gd_true, Nat.zero_add, List.getD_cons_zero, List.getD_cons_succ, isI_int, toI_int, isB_bool, toB_bool, eL_T, arr_ln, arr_fn, arr_wd, arr_is, arr_get, hi, atL_of hg, Sf.cs, wrapI, wrapS, setF_d, and_self, if_true, dm_mkLB g0, iv_mkLB g0, len_mkLB, d_mkLB, d_ctLB]
    rw [← hms]
    congr 2
    refine set_atL hml fun j' k' => ?_
    by_cases e : j' = i
    · subst e
      rcases k' with _ | k' <;> simp [setF_d, Sf.cs, m1_SfS, atL_of hg, eL_T, len_mkLB]
    · simp [setF_d, e]
  · rw [round_mkSfS_1, mkd_all]
    simp only [lt_d, Nat.lt_irrefl, decide_false, cond_false, List.take_length]
    rfl
theorem s_mkSfS : EntOk prog i_mkSfS e_mkSfS := ent_ok eam_SfS_inj fun x hx =>
  body_sound (φ := (tabS [(i_mkLB, e_mkLB)])) (tabS_cons s_mkLB tabS_nil) mixed (kp := kp_mkSfS) (n := x.1.length + 1) func93 (c := bodyOf F_mkSfS) (by kernel_rfl) (body_mkSfS x.1 x.2 hx) (name_ok (by kernel_rfl))

theorem dm_hdSfS {l : List Sf} {k : Int} (h : okh_SfS (l, k)) : dom okh_SfS eah_SfS [(0, false, [C.tr false (T.arr 1 l.length (atL Sf.cs l))]), (0, false, [C.tr false (T.int IntKind.i64 k)])] = true := dom_ea (ea := eah_SfS) (x := (l, k)) h
theorem iv_hdSfS {l : List Sf} {k : Int} (h : okh_SfS (l, k)) : inv okh_SfS eah_SfS [(0, false, [C.tr false (T.arr 1 l.length (atL Sf.cs l))]), (0, false, [C.tr false (T.int IntKind.i64 k)])] = (l, k) := inv_ea eah_SfS_inj (x := (l, k)) h
theorem y_hdSfS {l : List Sf} {k : Int} (h : l = mk_SfS l k) : f_hdSfS (l, k) = k + cntL c1_SfS l := if_pos h
theorem n_hdSfS {l : List Sf} {k : Int} (h : ¬ l = mk_SfS l k) : f_hdSfS (l, k) = -1 := if_neg h
theorem dm_mkSfS {l : List Sf} {k : Int} (h : okh_SfS (l, k)) : dom okh_SfS eam_SfS [(1, false, [C.tr true (T.arr 1 l.length (atL Sf.cs l))]), (0, false, [C.tr false (T.int IntKind.i64 k)])] = true := dom_ea (ea := eam_SfS) (x := (l, k)) h
theorem iv_mkSfS {l : List Sf} {k : Int} (h : okh_SfS (l, k)) : inv okh_SfS eam_SfS [(1, false, [C.tr true (T.arr 1 l.length (atL Sf.cs l))]), (0, false, [C.tr false (T.int IntKind.i64 k)])] = (l, k) := inv_ea eam_SfS_inj (x := (l, k)) h
theorem len_mkSfS (l : List Sf) (k : Int) : (mk_SfS l k).length = l.length := markL_len _ _ _ _
theorem d_mkSfS (l : List Sf) (k : Int) : f_mkSfS (l, k) = mk_SfS l k := rfl
theorem d_ctSfS (l : List Sf) (k : Int) : f_ctSfS (l, k) = k + cntL c1_SfS l := rfl
def n1_SfS (x : Sf) : Nat := n_LB x.b
def n_SfS (l : List Sf) : Nat := l.length + cntL n1_SfS l
def okz_SfS (l : List Sf) : Prop := l.length ≤ ZM ∧ ∀ x ∈ l, okz_LB x.b
def okzz_SfS (x : List Sf × Int) : Prop := okz_SfS x.1 ∧ 0 ≤ x.2 ∧ x.2 ≤ LM
def eaz_SfS (x : List Sf × Int) : List Arg := [aT (eL 1 Sf.cs x.1), aI x.2]
def f_szSfS (x : List Sf × Int) : Int := if (n_SfS x.1 : Int) ≤ x.2 then x.2 - n_SfS x.1 else -1
noncomputable def e_szSfS : Ent := ent [] okzz_SfS eaz_SfS (erI 2) f_szSfS
theorem eaz_SfS_inj (x y : List Sf × Int) (h : eaz_SfS x = eaz_SfS y) : x = y := by
  simp only [eaz_SfS, aI, aT, List.cons.injEq, Prod.mk.injEq, true_and, and_true, C.tr.injEq, T.int.injEq] at h
  exact Prod.ext (eL_inj Sf.cs_inj h.1) h.2
theorem dm_szSfS {l : List Sf} {k : Int} (h : okzz_SfS (l, k)) : dom okzz_SfS eaz_SfS [(0, false, [C.tr false (T.arr 1 l.length (atL Sf.cs l))]), (0, false, [C.tr false (T.int IntKind.i64 k)])] = true := dom_ea (ea := eaz_SfS) (x := (l, k)) h
theorem iv_szSfS {l : List Sf} {k : Int} (h : okzz_SfS (l, k)) : inv okzz_SfS eaz_SfS [(0, false, [C.tr false (T.arr 1 l.length (atL Sf.cs l))]), (0, false, [C.tr false (T.int IntKind.i64 k)])] = (l, k) := inv_ea eaz_SfS_inj (x := (l, k)) h
theorem y_szSfS {l : List Sf} {k : Int} (h : (n_SfS l : Int) ≤ k) : f_szSfS (l, k) = k - n_SfS l := if_pos h
theorem n_szSfS {l : List Sf} {k : Int} (h : ¬ (n_SfS l : Int) ≤ k) : f_szSfS (l, k) = -1 := if_neg h
def i_szSfS : Nat := 175
noncomputable abbrev F_szSfS : Func := f175
def kp_szSfS : List (Nat × List Nat) := [(0, [0, 4]), (1, [0, 4]), (2, [0, 4, 44]), (3, [16]), (4, [0, 4, 20]), (5, [0, 4, 20, 60]), (6, [0, 4, 20]), (7, [0, 4, 20]), (8, [0, 4, 20, 100]), (9, [16]), (10, [16])]
def ts_szSfS : List Nat := [0, 0]
def st_szSfS_1 (l : List Sf) (k : Int) (x4 : Int) (x20 : Int) : St := [(0, ⟨z0, [(false, [.tr false (eL 1 Sf.cs l)])]⟩), (4, ⟨z0, [(false, [.tr true (T.int IntKind.i64 x4)])]⟩), (20, ⟨z0, [(false, [.tr true (T.int IntKind.i64 x20)])]⟩)]
def ex_szSfS_1_1 (l : List Sf) (k : Int) (x4 : Int) (x20 : Int) : St := [(16, ⟨z0, [(false, [.tr true (T.int IntKind.i64 (-1))])]⟩)]
def ex_szSfS_1_2 (l : List Sf) (k : Int) (x4 : Int) (x20 : Int) : St := [(0, ⟨z0, [(false, [.tr false (eL 1 Sf.cs l)])]⟩), (4, ⟨z0, [(false, [.tr true (T.int IntKind.i64 x4)])]⟩), (20, ⟨z0, [(false, [.tr true (T.int IntKind.i64 x20)])]⟩), (60, ⟨z0, []⟩)]
theorem round_szSfS_1 (l : List Sf) (k : Int) (x4 : Int) (x20 : Int) (n : Nat) (K : Ex → St → Res) : roundAt prog (tabS [(i_szSf, e_szSf)]) kp_szSfS F_szSfS [1, 1, 1, 0, 1, 0] n (st_szSfS_1 l k x4 x20) K = (
 bif decide (x20 < (↑l.length : Int)) then
  gd (decide (0 ≤ x20) && (x20.toNat.blt l.length && true)) <|
  gd ((atL Sf.cs l x20.toNat 0).isArr && (atL Sf.cs l x20.toNat 0).wd.beq 1) <|
  bif decide (IntKind.i64.wrap (x4 - (↑(atL Sf.cs l x20.toNat 0).ln : Int)) < 0) then
   K .ret (ex_szSfS_1_1 l k x4 x20)
  else
  bif decide (IntKind.i64.wrap (x4 - (↑(atL Sf.cs l x20.toNat 0).ln : Int)) < 0) then
   K .ret (ex_szSfS_1_1 l k x4 x20)
  else
  bif decide (IntKind.i64.wrap (x4 - (↑(atL Sf.cs l x20.toNat 0).ln : Int)) < 0) then
   K .ret (ex_szSfS_1_1 l k x4 x20)
  else
  K .normal (st_szSfS_1 l k (IntKind.i64.wrap (x4 - (↑(atL Sf.cs l x20.toNat 0).ln : Int))) (IntKind.i64.wrap (x20 + 1)))
 else
 K (.exit 0) (ex_szSfS_1_2 l k x4 x20)) := by kernel_rfl
theorem post_szSfS_1_1 (l : List Sf) (k : Int) (x4 : Int) (x20 : Int) (n : Nat) : contAt prog (tabS [(i_szSf, e_szSf)]) kp_szSfS F_szSfS ts_szSfS [1, 1, 1, 0, 1, 0] [] n .ret (ex_szSfS_1_1 l k x4 x20) = (
 some ([(false, [.tr true (T.int IntKind.i64 (-1))])], [(false, []), (false, [])])) := by kernel_rfl
theorem post_szSfS_1_2 (l : List Sf) (k : Int) (x4 : Int) (x20 : Int) (n : Nat) : contAt prog (tabS [(i_szSf, e_szSf)]) kp_szSfS F_szSfS ts_szSfS [1, 1, 1, 0, 1, 0] [] n (.exit 0) (ex_szSfS_1_2 l k x4 x20) = (
 some ([(false, [.tr true (T.int IntKind.i64 x4)])], [(false, []), (false, [])])) := by kernel_rfl
theorem pre_szSfS (l : List Sf) (k : Int) (n : Nat) : body prog (tabS [(i_szSf, e_szSf)]) kp_szSfS n F_szSfS [aT (eL 1 Sf.cs l), aI k] = (
 bif decide (IntKind.i64.wrap (k - (↑l.length : Int)) < 0) then
  some ([(false, [.tr true (T.int IntKind.i64 (-1))])], [(false, []), (false, [])])
 else
 loopAt prog (tabS [(i_szSf, e_szSf)]) kp_szSfS F_szSfS [1, 1, 1, 0, 1, 0] n n (st_szSfS_1 l k (IntKind.i64.wrap (k - (↑l.length : Int))) (0)) (contAt prog (tabS [(i_szSf, e_szSf)]) kp_szSfS F_szSfS ts_szSfS [1, 1, 1, 0, 1, 0] [] n)) := by kernel_rfl
theorem round1_szSfS (l : List Sf) (k : Int) (hl : okz_SfS l) {n : Nat} (i : Nat) (x : Sf) (K : Ex → St → Res) (hx : l[i]? = some x) (hr : (cntL n1_SfS (l.take i) : Int) ≤ k - (l.length : Int)) (hk1 : k ≤ LM) : roundAt prog (tabS [(i_szSf, e_szSf)]) kp_szSfS F_szSfS [1, 1, 1, 0, 1, 0] n (st_szSfS_1 l k (k - (l.length : Int) - cntL n1_SfS (l.take i)) (i : Nat)) K = bif decide (k - (l.length : Int) - cntL n1_SfS (l.take i) < n1_SfS x) then K .ret (ex_szSfS_1_1 l k (k - (l.length : Int) - cntL n1_SfS (l.take i)) (i : Nat)) else K .normal (st_szSfS_1 l k (k - (l.length : Int) - cntL n1_SfS (l.take (i + 1))) ((i + 1 : Nat) : Int)) := by
    have hzm := zm
    have hlm := lm
    have hl' : l.length ≤ ZM := hl.1
    have hi := (List.getElem?_eq_some_iff.1 hx).1
    have hxm : x ∈ l := List.mem_of_getElem? hx
    have hc := cntL_take n1_SfS l hx
    have hcx : n1_SfS x = x.b.length := rfl
    rw [hc, round_szSfS_1]
    obtain ⟨k0, hk⟩ : ∃ k0, k0 = k - (l.length : Int) - (cntL n1_SfS (l.take i) : Int) := ⟨_, rfl⟩
    have hk2 : k - (l.length : Int) - ((cntL n1_SfS (l.take i) + n1_SfS x : Nat) : Int) = k0 - (x.b.length : Int) := by omega
    rw [hk2, ← hk]
    have hk3 : 0 ≤ k0 := by omega
    have hk4 : k0 ≤ LM := by omega
    simp (disch := omega) only [lt_d, ge0_d, Int.toNat_natCast, blt_d, ble_self, beq_self, decide_true, cond_true, Bool.and_self, Bool.and_true, Bool.true_and, gd_true, Nat.zero_add, List.getD_cons_zero, List.getD_cons_succ, isI_int, toI_int, isB_bool, toB_bool, eL_T, arr_ln, arr_fn, arr_wd, arr_is, arr_get, hi, atL_of hx, Sf.cs, wrapS]
    have h0 : x.b.length ≤ ZM := (hl.2 _ hxm)
    try simp (disch := omega) only [wrapI]
    by_cases e0 : k0 - (x.b.length : Int) < 0
    case pos =>
      rw [decide_eq_true e0, decide_eq_true (show k0 < (n1_SfS x : Int) by omega)]
      rfl
    simp (disch := omega) only [decide_eq_false e0, cond_false, wrapI]
    rw [decide_eq_false (show ¬ k0 < (n1_SfS x : Int) by omega)]
    simp only [cond_false]
    try congr 2
    try omega
theorem body_szSfS (l : List Sf) (k : Int) (h : okzz_SfS (l, k)) : body prog (tabS [(i_szSf, e_szSf)]) kp_szSfS (l.length + 1) F_szSfS (eaz_SfS (l, k)) = some (erI 2 (f_szSfS (l, k))) := by
  obtain ⟨hl, hk0, hk1⟩ := h
  have hzm := zm
  have hlm := lm
  dsimp only at hl hk0 hk1
  have hl' : l.length ≤ ZM := hl.1
  have hn : n_SfS l = l.length + cntL n1_SfS l := rfl
  unfold eaz_SfS f_szSfS
  dsimp only
  rw [pre_szSfS]
  simp (disch := omega) only [wrapI]
  by_cases hs : k - (l.length : Int) < 0
  · rw [decide_eq_true hs, if_neg (by omega)]
    rfl
  · rw [decide_eq_false hs]
    simp only [cond_false]
    have hst : st_szSfS_1 l k (k - (l.length : Int)) 0 = (fun i : Nat => st_szSfS_1 l k (k - (l.length : Int) - cntL n1_SfS (l.take i)) (i : Nat)) 0 := by simp [cntL]
    rw [hst, szS n1_SfS l (k - (l.length : Int)) (by omega) (fun i : Nat => st_szSfS_1 l k (k - (l.length : Int) - cntL n1_SfS (l.take i)) (i : Nat)) (fun i : Nat => ex_szSfS_1_1 l k (k - (l.length : Int) - cntL n1_SfS (l.take i)) (i : Nat)) (ex_szSfS_1_2 l k (k - (l.length : Int) - cntL n1_SfS l) l.length) (fun i x K hx hr => ?_) (fun K hr => ?_) (fun i => post_szSfS_1_1 l k _ _ _) (post_szSfS_1_2 l k _ _ _) _ (Nat.le_refl _)]
    · by_cases hq : (cntL n1_SfS l : Int) ≤ k - (l.length : Int)
      · rw [if_pos hq, if_pos (by omega), show k - (l.length : Int) - (cntL n1_SfS l : Int) = k - (n_SfS l : Int) by omega]
        rfl
      · rw [if_neg hq, if_neg (by omega)]
        rfl
    · exact round1_szSfS l k hl i x K hx hr hk1
    · rw [round_szSfS_1]
      simp only [lt_d, Nat.lt_irrefl, decide_false, cond_false, List.take_length]
theorem s_szSfS : EntOk prog i_szSfS e_szSfS := ent_ok eaz_SfS_inj fun x hx =>
  body_sound (φ := (tabS [(i_szSf, e_szSf)])) (tabS_cons s_szSf tabS_nil) mixed (kp := kp_szSfS) (n := x.1.length + 1) func175 (c := bodyOf F_szSfS) (by kernel_rfl) (body_szSfS x.1 x.2 hx) (name_ok (by kernel_rfl))

theorem Th.cs_inj (x y : Th) (h : ∀ k, x.cs.getD k .hole = y.cs.getD k .hole) : x = y := by
  have h0 := h 0; have h1 := h 1; have h2 := h 2
  rcases x with ⟨x0, x1, x2⟩
  rcases y with ⟨y0, y1, y2⟩
  simp only [Th.cs, List.getD_cons_zero, List.getD_cons_succ, T.int.injEq, T.bool.injEq, true_and] at h0 h1 h2
  subst h0; subst h1; subst h2
  rfl
def i_toTh : Nat := 190
noncomputable abbrev F_toTh : Func := f190
def kp_toTh : List (Nat × List Nat) := [(0, [4, 5, 8, 9]), (1, [4, 5, 8, 9, 12, 13]), (2, [4, 5, 8, 9, 12, 13]), (3, [4, 5, 8, 9, 12, 13]), (4, [8, 9, 12, 13]), (5, [8, 9])]
noncomputable def e_toTh : Ent := inl [] prog (tabS []) kp_toTh 0 F_toTh
theorem s_toTh : EntOk prog i_toTh e_toTh := inl_ok tabS_nil mixed (c := bodyOf F_toTh) func190 (by kernel_rfl) (name_ok (by kernel_rfl))
def i_eqTh : Nat := 191
noncomputable abbrev F_eqTh : Func := f191
def kp_eqTh : List (Nat × List Nat) := [(0, [8, 9, 12, 13]), (1, [8, 9, 12, 13, 36]), (2, [16]), (3, [8, 9, 12, 13, 56]), (4, [16]), (5, [76]), (6, [16]), (7, [16])]
noncomputable def e_eqTh : Ent := inl [] prog (tabS []) kp_eqTh 0 F_eqTh
theorem s_eqTh : EntOk prog i_eqTh e_eqTh := inl_ok tabS_nil mixed (c := bodyOf F_eqTh) func191 (by kernel_rfl) (name_ok (by kernel_rfl))
def ok_ThS (l : List Th) : Prop := l.length ≤ LM ∧ ∀ x ∈ l, True
def ea_ThS (l : List Th) : List Arg := [aT (eL 3 Th.cs l)]
noncomputable def e_toThS : Ent := ent [] ok_ThS ea_ThS (fun l => erT 1 (eL 3 Th.cs l)) fun l => l
def okq_ThS (l : List Th) : Prop := l.length ≤ BM ∧ ∀ x ∈ l, True
def ok2_ThS (x : List Th × List Th) : Prop := okq_ThS x.1
def ea2_ThS (x : List Th × List Th) : List Arg := [aT (eL 3 Th.cs x.1), aT (eL 3 Th.cs x.2)]
def f_eqThS (x : List Th × List Th) : Bool := decide (x.1 = x.2)
noncomputable def e_eqThS : Ent := ent [] ok2_ThS ea2_ThS (erB 2) f_eqThS
theorem ea_ThS_inj (x y : List Th) (h : ea_ThS x = ea_ThS y) : x = y := by
  simp only [ea_ThS, aT, List.cons.injEq, Prod.mk.injEq, true_and, and_true, C.tr.injEq] at h
  exact eL_inj Th.cs_inj h
theorem ea2_ThS_inj (x y : List Th × List Th) (h : ea2_ThS x = ea2_ThS y) : x = y := by
  simp only [ea2_ThS, aT, List.cons.injEq, Prod.mk.injEq, true_and, and_true, C.tr.injEq] at h
  exact Prod.ext (eL_inj Th.cs_inj h.1) (eL_inj Th.cs_inj h.2)
def i_toThS : Nat := 172
noncomputable abbrev F_toThS : Func := f172
def kp_toThS : List (Nat × List Nat) := [(0, [0]), (1, [0, 12]), (2, [0, 12, 16]), (3, [0, 12, 16, 44]), (4, [0, 12, 16]), (5, [0, 12, 16]), (6, [8])]
def ts_toThS : List Nat := [0]
def st_toThS_1 (l : List Th) (nx12 : Nat) (fx12 : Nat → Nat → T) (x16 : Int) : St := [(0, ⟨z0, [(false, [.tr false (eL 3 Th.cs l)])]⟩), (12, ⟨z0, [(false, [.tr true (.arr (3) (nx12) (fx12))])]⟩), (16, ⟨z0, [(false, [.tr true (T.int IntKind.i64 x16)])]⟩)]
def ex_toThS_1_1 (l : List Th) (nx12 : Nat) (fx12 : Nat → Nat → T) (x16 : Int) : St := [(0, ⟨z0, [(false, [.tr false (eL 3 Th.cs l)])]⟩), (12, ⟨z0, [(false, [.tr true (.arr (3) (nx12) (fx12))])]⟩), (16, ⟨z0, [(false, [.tr true (T.int IntKind.i64 x16)])]⟩), (44, ⟨z0, []⟩)]
theorem round_toThS_1 (l : List Th) (nx12 : Nat) (fx12 : Nat → Nat → T) (x16 : Int) (n : Nat) (K : Ex → St → Res) : roundAt prog (tabS [(i_toTh, e_toTh)]) kp_toThS F_toThS [1, 1, 0, 1, 0] n (st_toThS_1 l nx12 fx12 x16) K = (
 bif decide (x16 < (↑l.length : Int)) then
  gd (decide (0 ≤ x16) && (x16.toNat.blt l.length && true)) <|
  gd (T.isI IntKind.i64 (atL Th.cs l x16.toNat 0) && T.isI IntKind.i64 (atL Th.cs l x16.toNat 1) &&
  T.isI IntKind.i64 (atL Th.cs l x16.toNat 2)) <|
  gd (decide (0 ≤ x16) && (x16.toNat.blt nx12 && true)) <|
  gd ((0 + x16.toNat).blt nx12 && true && true) <|
  gd ((0 + x16.toNat).blt nx12 && true && true) <|
  gd ((0 + x16.toNat).blt nx12 && true && true) <|
  K .normal (st_toThS_1 l (nx12) (setF (0 + x16.toNat) (1 + 1) (T.int IntKind.i64 (atL Th.cs l x16.toNat 2).toI)
  (setF (0 + x16.toNat) 1 (T.int IntKind.i64 (atL Th.cs l x16.toNat 1).toI)
    (setF (0 + x16.toNat) 0 (T.int IntKind.i64 (atL Th.cs l x16.toNat 0).toI) fx12))) (IntKind.i64.wrap (x16 + 1)))
 else
 K (.exit 0) (ex_toThS_1_1 l nx12 fx12 x16)) := by kernel_rfl
theorem post_toThS_1_1 (l : List Th) (nx12 : Nat) (fx12 : Nat → Nat → T) (x16 : Int) (n : Nat) : contAt prog (tabS [(i_toTh, e_toTh)]) kp_toThS F_toThS ts_toThS [1, 1, 0, 1, 0] [] n (.exit 0) (ex_toThS_1_1 l nx12 fx12 x16) = (
 gd (nx12.ble nx12 && true) <|
 gd (nx12.ble nx12 && true) <|
 some ([(false, [.tr true (.arr (3) (nx12) (fx12))])], [(false, [])])) := by kernel_rfl
theorem pre_toThS (l : List Th) (n : Nat) : body prog (tabS [(i_toTh, e_toTh)]) kp_toThS n F_toThS [aT (eL 3 Th.cs l)] = (
 gd (decide (0 ≤ (↑l.length : Int)) &&
  (decide ((↑l.length : Int) ≤ (↑l.length : Int)) &&
    (((↑l.length : Int).toNat * 24).ble 70368744177664 && (↑l.length : Int).toNat.ble 70368744177664))) <|
 gd ((↑l.length : Int).toNat.ble (↑l.length : Int).toNat && true) <|
 loopAt prog (tabS [(i_toTh, e_toTh)]) kp_toThS F_toThS [1, 1, 0, 1, 0] n n (st_toThS_1 l ((↑l.length : Int).toNat) (cutT 0 (↑l.length : Int).toNat (zeroT prog 192)) (0)) (contAt prog (tabS [(i_toTh, e_toTh)]) kp_toThS F_toThS ts_toThS [1, 1, 0, 1, 0] [] n)) := by kernel_rfl
theorem body_toThS (l : List Th) (hl : ok_ThS l) : body prog (tabS [(i_toTh, e_toTh)]) kp_toThS (l.length + 1) F_toThS (ea_ThS l) = some (erT 1 (eL 3 Th.cs l)) := by
  have hl' : l.length ≤ LM := hl.1
  have hlm := lm
  unfold ea_ThS
  rw [pre_toThS]
  simp only [ge0_d, Int.toNat_natCast, ble_d, Int.le_refl, Nat.le_refl, decide_true, Bool.and_true, Bool.true_and, gd_true]
  rw [decide_eq_true (show l.length * 24 ≤ 70368744177664 by omega), decide_eq_true (show l.length ≤ 70368744177664 by omega)]
  simp only [Bool.and_true, gd_true]
  rw [zero_fill (m := 3) (row := Th.cs) (d := default) l.length (fun j k => by rcases k with _ | _ | _ | _ <;> kernel_rfl), ← fill_zero l default]
  have hst : st_toThS_1 l l.length (atL Th.cs (fill l default 0)) 0 = (fun i : Nat => st_toThS_1 l l.length (atL Th.cs (fill l default i)) (i : Nat)) 0 := rfl
  rw [hst, forLoop l.length (fun i : Nat => st_toThS_1 l l.length (atL Th.cs (fill l default i)) (i : Nat)) (ex_toThS_1_1 l l.length (atL Th.cs l) l.length) 0 (fun i K hi => ?_) (fun K => ?_) _ (Nat.le_refl _)]
  · rw [post_toThS_1_1]
    simp only [ble_d, Nat.le_refl, decide_true, gd_true, Bool.and_true]
    rfl
  · have hx := List.getElem?_eq_getElem hi
    
    have hd : (fill l default i)[i]? = some default := by
      unfold fill
      rw [List.getElem?_append_right (by simp; omega), List.getElem?_replicate, if_pos (by simp; omega)]
    rw [round_toThS_1]
    simp only [lt_d, ge0_d, Int.toNat_natCast, blt_d, ble_self, beq_self, decide_true, cond_true, Bool.and_self, Bool.and_true, Bool.true_and, gd_true, Nat.zero_add, List.getD_cons_zero, List.getD_cons_succ, isI_int, toI_int, isB_bool, toB_bool, eL_T, arr_ln, arr_fn, arr_wd, arr_is, arr_get, hi, atL_of hx, Th.cs]
    rw [wrapS (by omega), ← fill_set l default hx]
    congr 3
    refine set_atL (by rw [fill_len l default (by omega)]; exact hi) fun j' k' => ?_
    by_cases e : j' = i
    · subst e
      rcases k' with _ | _ | _ | k' <;> simp [setF_d, Th.cs, atL_of hd, eL_T]
    · simp [setF_d, e]
  · rw [round_toThS_1, fill_all]
    simp only [lt_d, Nat.lt_irrefl, decide_false, cond_false]
theorem s_toThS : EntOk prog i_toThS e_toThS := ent_ok ea_ThS_inj fun l hl =>
  body_sound (φ := (tabS [(i_toTh, e_toTh)])) (tabS_cons s_toTh tabS_nil) mixed (kp := kp_toThS) (n := l.length + 1) func172 (c := bodyOf F_toThS) (by kernel_rfl) (body_toThS l hl) (name_ok (by kernel_rfl))

def i_eqThS : Nat := 173
noncomputable abbrev F_eqThS : Func := f173
def kp_eqThS : List (Nat × List Nat) := [(0, [0, 4]), (1, [0, 4, 40]), (2, [16]), (3, [0, 4, 20]), (4, [0, 4, 20, 56]), (5, [0, 4, 20]), (6, [0, 4, 20, 104]), (7, [16]), (8, [16])]
def ts_eqThS : List Nat := [0, 0]
def st_eqThS_1 (l r : List Th) (x20 : Int) : St := [(0, ⟨z0, [(false, [.tr false (eL 3 Th.cs l)])]⟩), (4, ⟨z0, [(false, [.tr false (eL 3 Th.cs r)])]⟩), (20, ⟨z0, [(false, [.tr true (T.int IntKind.i64 x20)])]⟩)]
def ex_eqThS_1_1 (l r : List Th) (x20 : Int) : St := [(16, ⟨z0, [(false, [.tr true (T.bool false)])]⟩)]
def ex_eqThS_1_2 (l r : List Th) (x20 : Int) : St := [(0, ⟨z0, [(false, [.tr false (eL 3 Th.cs l)])]⟩), (4, ⟨z0, [(false, [.tr false (eL 3 Th.cs r)])]⟩), (20, ⟨z0, [(false, [.tr true (T.int IntKind.i64 x20)])]⟩), (56, ⟨z0, []⟩)]
theorem round_eqThS_1 (l r : List Th) (x20 : Int) (n : Nat) (K : Ex → St → Res) : roundAt prog (tabS [(i_eqTh, e_eqTh)]) kp_eqThS F_eqThS [1, 1, 0, 1, 0] n (st_eqThS_1 l r x20) K = (
 bif decide (x20 < (↑l.length : Int)) then
  gd (decide (0 ≤ x20) && (x20.toNat.blt l.length && true)) <|
  gd (T.isI IntKind.i64 (atL Th.cs l x20.toNat 0) && T.isI IntKind.i64 (atL Th.cs l x20.toNat 1) &&
  T.isI IntKind.i64 (atL Th.cs l x20.toNat 2)) <|
  gd (decide (0 ≤ x20) && (x20.toNat.blt r.length && true)) <|
  gd (T.isI IntKind.i64 (atL Th.cs r x20.toNat 0) && T.isI IntKind.i64 (atL Th.cs r x20.toNat 1) &&
  T.isI IntKind.i64 (atL Th.cs r x20.toNat 2)) <|
  bif (atL Th.cs l x20.toNat 0).toI != (atL Th.cs r x20.toNat 0).toI then
   K .ret (ex_eqThS_1_1 l r x20)
  else
  bif (atL Th.cs l x20.toNat 1).toI != (atL Th.cs r x20.toNat 1).toI then
   K .ret (ex_eqThS_1_1 l r x20)
  else
  bif (atL Th.cs l x20.toNat 2).toI != (atL Th.cs r x20.toNat 2).toI then
   K .ret (ex_eqThS_1_1 l r x20)
  else
  K .normal (st_eqThS_1 l r (IntKind.i64.wrap (x20 + 1)))
 else
 K (.exit 0) (ex_eqThS_1_2 l r x20)) := by kernel_rfl
theorem post_eqThS_1_1 (l r : List Th) (x20 : Int) (n : Nat) : contAt prog (tabS [(i_eqTh, e_eqTh)]) kp_eqThS F_eqThS ts_eqThS [1, 1, 0, 1, 0] [] n .ret (ex_eqThS_1_1 l r x20) = (
 some ([(false, [.tr true (T.bool false)])], [(false, []), (false, [])])) := by kernel_rfl
theorem post_eqThS_1_2 (l r : List Th) (x20 : Int) (n : Nat) : contAt prog (tabS [(i_eqTh, e_eqTh)]) kp_eqThS F_eqThS ts_eqThS [1, 1, 0, 1, 0] [] n (.exit 0) (ex_eqThS_1_2 l r x20) = (
 some ([(false, [.tr true (T.bool true)])], [(false, []), (false, [])])) := by kernel_rfl
theorem pre_eqThS (l r : List Th) (n : Nat) : body prog (tabS [(i_eqTh, e_eqTh)]) kp_eqThS n F_eqThS [aT (eL 3 Th.cs l), aT (eL 3 Th.cs r)] = (
 bif (↑l.length : Int) != (↑r.length : Int) then
  some ([(false, [.tr true (T.bool false)])], [(false, []), (false, [])])
 else
 loopAt prog (tabS [(i_eqTh, e_eqTh)]) kp_eqThS F_eqThS [1, 1, 0, 1, 0] n n (st_eqThS_1 l r (0)) (contAt prog (tabS [(i_eqTh, e_eqTh)]) kp_eqThS F_eqThS ts_eqThS [1, 1, 0, 1, 0] [] n)) := by kernel_rfl
theorem body_eqThS (l r : List Th) (hl : okq_ThS l) : body prog (tabS [(i_eqTh, e_eqTh)]) kp_eqThS (l.length + 1) F_eqThS (ea2_ThS (l, r)) = some (erB 2 (f_eqThS (l, r))) := by
  have hbm := bm
  have hl' : l.length ≤ BM := hl.1
  unfold ea2_ThS f_eqThS
  dsimp only
  rw [pre_eqThS, int_ne]
  by_cases h : l.length = r.length
  · rw [decide_eq_true (by omega)]
    simp only [Bool.not_true, cond_false]
    have hst : st_eqThS_1 l r 0 = (fun i : Nat => st_eqThS_1 l r (i : Nat)) 0 := rfl
    rw [hst, eqS l r h (fun i : Nat => st_eqThS_1 l r (i : Nat)) (fun i : Nat => ex_eqThS_1_1 l r (i : Nat)) (ex_eqThS_1_2 l r l.length) (fun i x y K hx hy => ?_) (fun K => ?_) (fun i => post_eqThS_1_1 l r _ _) (post_eqThS_1_2 l r _ _) _ (Nat.le_refl _)]
    · by_cases e : l = r
      · rw [if_pos e, decide_eq_true e]; rfl
      · rw [if_neg e, decide_eq_false e]; rfl
    · have hi := (List.getElem?_eq_some_iff.1 hx).1
      have hi' := (List.getElem?_eq_some_iff.1 hy).1
      have hxm : x ∈ l := List.mem_of_getElem? hx
      
      rw [round_eqThS_1]
      simp only [lt_d, ge0_d, Int.toNat_natCast, blt_d, ble_self, beq_self, decide_true, cond_true, Bool.and_self, Bool.and_true, Bool.true_and, gd_true, Nat.zero_add, List.getD_cons_zero, List.getD_cons_succ, isI_int, toI_int, isB_bool, toB_bool, eL_T, arr_ln, arr_fn, arr_wd, arr_is, arr_get, hi, hi', atL_of hx, atL_of hy, Th.cs, int_ne, bool_ne, bool_eq, chain]
      rw [wrapS (by omega)]
      have hxy : (x.pos = y.pos ∧ x.len = y.len ∧ x.run = y.run) ↔ x = y := by
        rcases x with ⟨x0, x1, x2⟩
        rcases y with ⟨y0, y1, y2⟩
        simp [and_assoc]
      simp only [hxy]
    · rw [round_eqThS_1]
      simp only [lt_d, Nat.lt_irrefl, decide_false, cond_false]
  · rw [decide_eq_false (by omega)]
    have : ¬ l = r := fun e => h (by rw [e])
    rw [decide_eq_false this]
    rfl
theorem s_eqThS : EntOk prog i_eqThS e_eqThS := ent_ok ea2_ThS_inj fun x hx =>
  body_sound (φ := (tabS [(i_eqTh, e_eqTh)])) (tabS_cons s_eqTh tabS_nil) mixed (kp := kp_eqThS) (n := x.1.length + 1) func173 (c := bodyOf F_eqThS) (by kernel_rfl) (body_eqThS x.1 x.2 hx) (name_ok (by kernel_rfl))

theorem dm_toThS {l : List Th} (h : ok_ThS l) : dom ok_ThS ea_ThS [(0, false, [C.tr false (T.arr 3 l.length (atL Th.cs l))])] = true := dom_ea (ea := ea_ThS) (x := l) h
theorem iv_toThS {l : List Th} (h : ok_ThS l) : inv ok_ThS ea_ThS [(0, false, [C.tr false (T.arr 3 l.length (atL Th.cs l))])] = l := inv_ea ea_ThS_inj (x := l) h
theorem dm_eqThS {l r : List Th} (h : okq_ThS l) : dom ok2_ThS ea2_ThS [(0, false, [C.tr false (T.arr 3 l.length (atL Th.cs l))]), (0, false, [C.tr false (T.arr 3 r.length (atL Th.cs r))])] = true := dom_ea (ea := ea2_ThS) (x := (l, r)) h
theorem iv_eqThS {l r : List Th} (h : okq_ThS l) : inv ok2_ThS ea2_ThS [(0, false, [C.tr false (T.arr 3 l.length (atL Th.cs l))]), (0, false, [C.tr false (T.arr 3 r.length (atL Th.cs r))])] = (l, r) := inv_ea ea2_ThS_inj (x := (l, r)) h
theorem d_eqThS (l r : List Th) : f_eqThS (l, r) = decide (l = r) := rfl
def okz_ThS (l : List Th) : Prop := l.length ≤ ZM
def n_ThS (l : List Th) : Nat := l.length
def i_szThS : Nat := 171
noncomputable abbrev F_szThS : Func := f171
def kp_szThS : List (Nat × List Nat) := [(0, [0, 4]), (1, [4]), (2, [4, 40]), (3, [16]), (4, [16])]
noncomputable def e_szThS : Ent := inl [] prog (tabS []) kp_szThS 0 F_szThS
theorem s_szThS : EntOk prog i_szThS e_szThS := inl_ok tabS_nil mixed (c := bodyOf F_szThS) func171 (by kernel_rfl) (name_ok (by kernel_rfl))
end Go.Mach.F