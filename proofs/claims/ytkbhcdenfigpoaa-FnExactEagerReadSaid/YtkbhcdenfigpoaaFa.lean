/- Slices of numbers and of bytes: the laws' copies, comparisons, marks and sizes. Conditions: none. -/
import Derived.Test.YtkbhcdenfigpoaaTe
namespace Go.Mach.F
open Go Go.Mach Go.Proofs.Try
def ok_LI (l : List Int) : Prop := l.length ≤ LM
def ea_LI (l : List Int) : List Arg := [aT (eI l)]
def okq_LI (l : List Int) : Prop := l.length ≤ BM
def ok2_LI (x : List Int × List Int) : Prop := okq_LI x.1
def ea2_LI (x : List Int × List Int) : List Arg := [aT (eI x.1), aT (eI x.2)]
def eah_LI (x : List Int × Int) : List Arg := [aT (eI x.1), aI x.2]
def eam_LI (x : List Int × Int) : List Arg := [lT (eI x.1), aI x.2]
def m1_LI : Int → Int → Int := (fun (_ : Int) k => k)
def c1_LI : Int → Nat := fun _ => 1
def okh_LI (x : List Int × Int) : Prop := okq_LI x.1 ∧ 0 ≤ x.2 ∧ x.2 + cntL c1_LI x.1 ≤ BM
def mk_LI (l : List Int) (k : Int) : List Int := markL m1_LI c1_LI l k
def f_eqLI (x : List Int × List Int) : Bool := decide (x.1 = x.2)
def f_hdLI (x : List Int × Int) : Int := if x.1 = mk_LI x.1 x.2 then x.2 + cntL c1_LI x.1 else -1
def f_mkLI (x : List Int × Int) : List Int := mk_LI x.1 x.2
def f_ctLI (x : List Int × Int) : Int := x.2 + cntL c1_LI x.1
noncomputable def e_toLI : Ent := ent [] ok_LI ea_LI (fun l => erT 1 (eI l)) fun l => l
noncomputable def e_eqLI : Ent := ent [] ok2_LI ea2_LI (erB 2) f_eqLI
noncomputable def e_hdLI : Ent := ent [] okh_LI eah_LI (erI 2) f_hdLI
noncomputable def e_mkLI : Ent := ent [1] okh_LI eam_LI (fun x => ([oT (.int .i64 (f_ctLI x))], [oT (eI (f_mkLI x)), nul])) fun x => x
theorem ea_LI_inj (x y : List Int) (h : ea_LI x = ea_LI y) : x = y := by
  simp only [ea_LI, aT, List.cons.injEq, Prod.mk.injEq, true_and, and_true, C.tr.injEq] at h
  exact eI_inj h
theorem ea2_LI_inj (x y : List Int × List Int) (h : ea2_LI x = ea2_LI y) : x = y := by
  simp only [ea2_LI, aT, List.cons.injEq, Prod.mk.injEq, true_and, and_true, C.tr.injEq] at h
  exact Prod.ext (eI_inj h.1) (eI_inj h.2)
theorem eah_LI_inj (x y : List Int × Int) (h : eah_LI x = eah_LI y) : x = y := by
  simp only [eah_LI, aI, aT, List.cons.injEq, Prod.mk.injEq, true_and, and_true, C.tr.injEq, T.int.injEq] at h
  exact Prod.ext (eI_inj h.1) h.2
theorem eam_LI_inj (x y : List Int × Int) (h : eam_LI x = eam_LI y) : x = y := by
  simp only [eam_LI, lT, aI, aT, List.cons.injEq, Prod.mk.injEq, true_and, and_true, C.tr.injEq, T.int.injEq] at h
  exact Prod.ext (eI_inj h.1) h.2
theorem ct_LI : ∀ l : List Int, cntL c1_LI l = l.length
  | [] => rfl
  | x :: l => by simp [cntL, c1_LI, ct_LI l]; omega
def i_toLI : Nat := 68
noncomputable abbrev F_toLI : Func := f68
def kp_toLI : List (Nat × List Nat) := [(0, [0]), (1, [0, 12]), (2, [0, 12, 16]), (3, [0, 12, 16, 44]), (4, [0, 12, 16]), (5, [0, 12, 16]), (6, [8])]
def ts_toLI : List Nat := [0]
def st_toLI_1 (l : List Int) (nx12 : Nat) (fx12 : Nat → Nat → T) (x16 : Int) : St := [(0, ⟨z0, [(false, [.tr false (.arr (1) (l.length) (atL rowI l))])]⟩), (12, ⟨z0, [(false, [.tr true (.arr (1) (nx12) (fx12))])]⟩), (16, ⟨z0, [(false, [.tr true (T.int IntKind.i64 x16)])]⟩)]
def ex_toLI_1_1 (l : List Int) (nx12 : Nat) (fx12 : Nat → Nat → T) (x16 : Int) : St := [(0, ⟨z0, [(false, [.tr false (.arr (1) (l.length) (atL rowI l))])]⟩), (12, ⟨z0, [(false, [.tr true (.arr (1) (nx12) (fx12))])]⟩), (16, ⟨z0, [(false, [.tr true (T.int IntKind.i64 x16)])]⟩), (44, ⟨z0, []⟩)]
theorem round_toLI_1 (l : List Int) (nx12 : Nat) (fx12 : Nat → Nat → T) (x16 : Int) (n : Nat) (K : Ex → St → Res) : roundAt prog (tabS []) kp_toLI F_toLI [1, 1, 0, 1, 0] n (st_toLI_1 l nx12 fx12 x16) K = (
 bif decide (x16 < (↑l.length : Int)) then
  gd (decide (0 ≤ x16) && (x16.toNat.blt l.length && true)) <|
  gd (T.isI IntKind.i64 (atL rowI l x16.toNat 0)) <|
  gd (decide (0 ≤ x16) && (x16.toNat.blt nx12 && true)) <|
  gd ((0 + x16.toNat).blt nx12 && true && true) <|
  K .normal (st_toLI_1 l (nx12) (setF (0 + x16.toNat) 0 (T.int IntKind.i64 (atL rowI l x16.toNat 0).toI) fx12) (IntKind.i64.wrap (x16 + 1)))
 else
 K (.exit 0) (ex_toLI_1_1 l nx12 fx12 x16)) := by kernel_rfl
theorem post_toLI_1_1 (l : List Int) (nx12 : Nat) (fx12 : Nat → Nat → T) (x16 : Int) (n : Nat) : contAt prog (tabS []) kp_toLI F_toLI ts_toLI [1, 1, 0, 1, 0] [] n (.exit 0) (ex_toLI_1_1 l nx12 fx12 x16) = (
 gd (nx12.ble nx12 && true) <|
 gd (nx12.ble nx12 && true) <|
 some ([(false, [.tr true (.arr (1) (nx12) (fx12))])], [(false, [])])) := by kernel_rfl
theorem pre_toLI (l : List Int) (n : Nat) : body prog (tabS []) kp_toLI n F_toLI [aT (eI l)] = (
 gd (decide (0 ≤ (↑l.length : Int)) &&
  (decide ((↑l.length : Int) ≤ (↑l.length : Int)) &&
    (((↑l.length : Int).toNat * 8).ble 70368744177664 && (↑l.length : Int).toNat.ble 70368744177664))) <|
 gd ((↑l.length : Int).toNat.ble (↑l.length : Int).toNat && true) <|
 loopAt prog (tabS []) kp_toLI F_toLI [1, 1, 0, 1, 0] n n (st_toLI_1 l ((↑l.length : Int).toNat) (cutT 0 (↑l.length : Int).toNat (zeroT prog 3)) (0)) (contAt prog (tabS []) kp_toLI F_toLI ts_toLI [1, 1, 0, 1, 0] [] n)) := by kernel_rfl
theorem body_toLI (l : List Int) (hl : ok_LI l) : body prog (tabS []) kp_toLI (l.length + 1) F_toLI (ea_LI l) = some (erT 1 (eI l)) := by
  have hl' : l.length ≤ LM := hl
  have hlm := lm
  unfold ea_LI
  rw [pre_toLI]
  simp only [ge0_d, Int.toNat_natCast, ble_d, Int.le_refl, Nat.le_refl, decide_true, Bool.and_true, Bool.true_and, gd_true]
  rw [decide_eq_true (show l.length * 8 ≤ 70368744177664 by omega), decide_eq_true (show l.length ≤ 70368744177664 by omega)]
  simp only [Bool.and_true, gd_true]
  rw [zero_fill (m := 1) (row := rowI) (d := 0) l.length (fun j k => by cases k <;> kernel_rfl), ← fill_zero l 0]
  have hst : st_toLI_1 l l.length (atL rowI (fill l 0 0)) 0 = (fun i : Nat => st_toLI_1 l l.length (atL rowI (fill l 0 i)) (i : Nat)) 0 := rfl
  rw [hst, forLoop l.length (fun i : Nat => st_toLI_1 l l.length (atL rowI (fill l 0 i)) (i : Nat)) (ex_toLI_1_1 l l.length (atL rowI l) l.length) 0 (fun i K hi => ?_) (fun K => ?_) _ (Nat.le_refl _)]
  · rw [post_toLI_1_1]
    simp only [ble_d, Nat.le_refl, decide_true, gd_true, Bool.and_true]
    rfl
  · have hx := List.getElem?_eq_getElem hi
    rw [round_toLI_1]
    simp only [lt_d, ge0_d, Int.toNat_natCast, blt_d, hi, decide_true, cond_true, Bool.and_self, gd_true, atL_of hx, rowI, List.getD_cons_zero, T.isI, T.toI, Nat.zero_add]
    have hset : setF i 0 (.int .i64 l[i]) (atL rowI (fill l 0 i)) = atL rowI ((fill l 0 i).set i l[i]) := set_atL (by rw [fill_len l 0 (by omega)]; exact hi) fun j' k' => by
      rw [setF_d]
      by_cases e : j' = i
      · subst e
        cases k' with
        | zero => simp [rowI]
        | succ k' =>
          have : (fill l 0 j')[j']? = some 0 := by
            unfold fill
            rw [List.getElem?_append_right (by simp; omega), List.getElem?_replicate, if_pos (by simp; omega)]
          simp [atL_of this, rowI]
      · simp [e]
    rw [wrapS (by omega), hset, fill_set l 0 hx]
  · rw [round_toLI_1, fill_all]
    simp only [lt_d, Nat.lt_irrefl, decide_false, cond_false]
theorem s_toLI : EntOk prog i_toLI e_toLI := ent_ok ea_LI_inj fun l hl =>
  body_sound (φ := tabS []) tabS_nil mixed (kp := kp_toLI) (n := l.length + 1) func68 (c := bodyOf F_toLI) (by kernel_rfl) (body_toLI l hl) (name_ok (by kernel_rfl))
def i_eqLI : Nat := 42
noncomputable abbrev F_eqLI : Func := f42
def kp_eqLI : List (Nat × List Nat) := [(0, [0, 4]), (1, [0, 4, 40]), (2, [16]), (3, [0, 4, 20]), (4, [0, 4, 20, 56]), (5, [0, 4, 20]), (6, [0, 4, 20, 100]), (7, [16]), (8, [16])]
def ts_eqLI : List Nat := [0, 0]
def st_eqLI_1 (l r : List Int) (x20 : Int) : St := [(0, ⟨z0, [(false, [.tr false (.arr (1) (l.length) (atL rowI l))])]⟩), (4, ⟨z0, [(false, [.tr false (.arr (1) (r.length) (atL rowI r))])]⟩), (20, ⟨z0, [(false, [.tr true (T.int IntKind.i64 x20)])]⟩)]
def ex_eqLI_1_1 (l r : List Int) (x20 : Int) : St := [(16, ⟨z0, [(false, [.tr true (T.bool false)])]⟩)]
def ex_eqLI_1_2 (l r : List Int) (x20 : Int) : St := [(0, ⟨z0, [(false, [.tr false (.arr (1) (l.length) (atL rowI l))])]⟩), (4, ⟨z0, [(false, [.tr false (.arr (1) (r.length) (atL rowI r))])]⟩), (20, ⟨z0, [(false, [.tr true (T.int IntKind.i64 x20)])]⟩), (56, ⟨z0, []⟩)]
theorem round_eqLI_1 (l r : List Int) (x20 : Int) (n : Nat) (K : Ex → St → Res) : roundAt prog (tabS []) kp_eqLI F_eqLI [1, 1, 0, 1, 0] n (st_eqLI_1 l r x20) K = (
 bif decide (x20 < (↑l.length : Int)) then
  gd (decide (0 ≤ x20) && (x20.toNat.blt l.length && true)) <|
  gd (T.isI IntKind.i64 (atL rowI l x20.toNat 0)) <|
  gd (decide (0 ≤ x20) && (x20.toNat.blt r.length && true)) <|
  gd (T.isI IntKind.i64 (atL rowI r x20.toNat 0)) <|
  bif (atL rowI l x20.toNat 0).toI != (atL rowI r x20.toNat 0).toI then
   K .ret (ex_eqLI_1_1 l r x20)
  else
  K .normal (st_eqLI_1 l r (IntKind.i64.wrap (x20 + 1)))
 else
 K (.exit 0) (ex_eqLI_1_2 l r x20)) := by kernel_rfl
theorem post_eqLI_1_1 (l r : List Int) (x20 : Int) (n : Nat) : contAt prog (tabS []) kp_eqLI F_eqLI ts_eqLI [1, 1, 0, 1, 0] [] n .ret (ex_eqLI_1_1 l r x20) = (
 some ([(false, [.tr true (T.bool false)])], [(false, []), (false, [])])) := by kernel_rfl
theorem post_eqLI_1_2 (l r : List Int) (x20 : Int) (n : Nat) : contAt prog (tabS []) kp_eqLI F_eqLI ts_eqLI [1, 1, 0, 1, 0] [] n (.exit 0) (ex_eqLI_1_2 l r x20) = (
 some ([(false, [.tr true (T.bool true)])], [(false, []), (false, [])])) := by kernel_rfl
theorem pre_eqLI (l r : List Int) (n : Nat) : body prog (tabS []) kp_eqLI n F_eqLI [aT (eI l), aT (eI r)] = (
 bif (↑l.length : Int) != (↑r.length : Int) then
  some ([(false, [.tr true (T.bool false)])], [(false, []), (false, [])])
 else
 loopAt prog (tabS []) kp_eqLI F_eqLI [1, 1, 0, 1, 0] n n (st_eqLI_1 l r (0)) (contAt prog (tabS []) kp_eqLI F_eqLI ts_eqLI [1, 1, 0, 1, 0] [] n)) := by kernel_rfl
theorem body_eqLI (l r : List Int) (hl : okq_LI l) : body prog (tabS []) kp_eqLI (l.length + 1) F_eqLI (ea2_LI (l, r)) = some (erB 2 (f_eqLI (l, r))) := by
  have hbm := bm
  unfold okq_LI at hl
  unfold ea2_LI f_eqLI
  dsimp only
  rw [pre_eqLI, int_ne]
  by_cases h : l.length = r.length
  · rw [decide_eq_true (by omega)]
    simp only [Bool.not_true, cond_false]
    have hst : st_eqLI_1 l r 0 = (fun i : Nat => st_eqLI_1 l r (i : Nat)) 0 := rfl
    rw [hst, eqS l r h (fun i : Nat => st_eqLI_1 l r (i : Nat)) (fun i : Nat => ex_eqLI_1_1 l r (i : Nat)) (ex_eqLI_1_2 l r l.length) (fun i x y K hx hy => ?_) (fun K => ?_) (fun i => post_eqLI_1_1 l r _ _) (post_eqLI_1_2 l r _ _) _ (Nat.le_refl _)]
    · by_cases e : l = r
      · rw [if_pos e, decide_eq_true e]; rfl
      · rw [if_neg e, decide_eq_false e]; rfl
    · have hi := (List.getElem?_eq_some_iff.1 hx).1
      have hi' := (List.getElem?_eq_some_iff.1 hy).1
      rw [round_eqLI_1]
      simp only [lt_d, ge0_d, Int.toNat_natCast, blt_d, hi, hi', decide_true, cond_true, Bool.and_self, gd_true, atL_of hx, atL_of hy, rowI, List.getD_cons_zero, T.isI, T.toI, int_ne]
      rw [wrapS (by omega)]
    · rw [round_eqLI_1]
      simp only [lt_d, Nat.lt_irrefl, decide_false, cond_false]
  · rw [decide_eq_false (by omega)]
    have : ¬ l = r := fun e => h (by rw [e])
    rw [decide_eq_false this]
    rfl
theorem s_eqLI : EntOk prog i_eqLI e_eqLI := ent_ok ea2_LI_inj fun x hx =>
  body_sound (φ := tabS []) tabS_nil mixed (kp := kp_eqLI) (n := x.1.length + 1) func42 (c := bodyOf F_eqLI) (by kernel_rfl) (body_eqLI x.1 x.2 hx) (name_ok (by kernel_rfl))
def i_hdLI : Nat := 45
noncomputable abbrev F_hdLI : Func := f45
def kp_hdLI : List (Nat × List Nat) := [(0, [0, 4]), (1, [0, 4, 20]), (2, [0, 4, 20, 36]), (3, [0, 4, 20]), (4, [0, 4, 20, 68]), (5, [16]), (6, [0, 4, 20]), (7, [16])]
def ts_hdLI : List Nat := [0, 0]
def st_hdLI_1 (l : List Int) (k : Int) (x4 : Int) (x20 : Int) : St := [(0, ⟨z0, [(false, [.tr false (.arr (1) (l.length) (atL rowI l))])]⟩), (4, ⟨z0, [(false, [.tr true (T.int IntKind.i64 x4)])]⟩), (20, ⟨z0, [(false, [.tr true (T.int IntKind.i64 x20)])]⟩)]
def ex_hdLI_1_1 (l : List Int) (k : Int) (x4 : Int) (x20 : Int) : St := [(16, ⟨z0, [(false, [.tr true (T.int IntKind.i64 (-1))])]⟩)]
def ex_hdLI_1_2 (l : List Int) (k : Int) (x4 : Int) (x20 : Int) : St := [(0, ⟨z0, [(false, [.tr false (.arr (1) (l.length) (atL rowI l))])]⟩), (4, ⟨z0, [(false, [.tr true (T.int IntKind.i64 x4)])]⟩), (20, ⟨z0, [(false, [.tr true (T.int IntKind.i64 x20)])]⟩), (36, ⟨z0, []⟩)]
theorem round_hdLI_1 (l : List Int) (k : Int) (x4 : Int) (x20 : Int) (n : Nat) (K : Ex → St → Res) : roundAt prog (tabS []) kp_hdLI F_hdLI [1, 0, 1, 0] n (st_hdLI_1 l k x4 x20) K = (
 bif decide (x20 < (↑l.length : Int)) then
  gd (decide (0 ≤ x20) && (x20.toNat.blt l.length && true)) <|
  gd (T.isI IntKind.i64 (atL rowI l x20.toNat 0)) <|
  bif (atL rowI l x20.toNat 0).toI != x4 then
   K .ret (ex_hdLI_1_1 l k x4 x20)
  else
  K .normal (st_hdLI_1 l k (IntKind.i64.wrap (x4 + 1)) (IntKind.i64.wrap (x20 + 1)))
 else
 K (.exit 0) (ex_hdLI_1_2 l k x4 x20)) := by kernel_rfl
theorem post_hdLI_1_1 (l : List Int) (k : Int) (x4 : Int) (x20 : Int) (n : Nat) : contAt prog (tabS []) kp_hdLI F_hdLI ts_hdLI [1, 0, 1, 0] [] n .ret (ex_hdLI_1_1 l k x4 x20) = (
 some ([(false, [.tr true (T.int IntKind.i64 (-1))])], [(false, []), (false, [])])) := by kernel_rfl
theorem post_hdLI_1_2 (l : List Int) (k : Int) (x4 : Int) (x20 : Int) (n : Nat) : contAt prog (tabS []) kp_hdLI F_hdLI ts_hdLI [1, 0, 1, 0] [] n (.exit 0) (ex_hdLI_1_2 l k x4 x20) = (
 some ([(false, [.tr true (T.int IntKind.i64 x4)])], [(false, []), (false, [])])) := by kernel_rfl
theorem pre_hdLI (l : List Int) (k : Int) (n : Nat) : body prog (tabS []) kp_hdLI n F_hdLI [aT (eI l), aI k] = (
 loopAt prog (tabS []) kp_hdLI F_hdLI [1, 0, 1, 0] n n (st_hdLI_1 l k (k) (0)) (contAt prog (tabS []) kp_hdLI F_hdLI ts_hdLI [1, 0, 1, 0] [] n)) := by kernel_rfl
theorem body_hdLI (l : List Int) (k : Int) (h : okh_LI (l, k)) : body prog (tabS []) kp_hdLI (l.length + 1) F_hdLI (eah_LI (l, k)) = some (erI 2 (f_hdLI (l, k))) := by
  obtain ⟨hl, h0, h1⟩ := h
  have hbm := bm
  dsimp only at hl h0 h1
  unfold okq_LI at hl
  rw [ct_LI] at h1
  unfold eah_LI f_hdLI
  dsimp only
  rw [pre_hdLI]
  have hst : st_hdLI_1 l k k 0 = (fun i : Nat => st_hdLI_1 l k (k + cntL c1_LI (l.take i)) (i : Nat)) 0 := by simp [cntL]
  rw [hst, heldS m1_LI c1_LI l k (fun i : Nat => st_hdLI_1 l k (k + cntL c1_LI (l.take i)) (i : Nat)) (fun i : Nat => ex_hdLI_1_1 l k (k + cntL c1_LI (l.take i)) (i : Nat)) (ex_hdLI_1_2 l k (k + l.length) l.length) (fun i x K hx => ?_) (fun K => ?_) (fun i => post_hdLI_1_1 l k _ _ _) (post_hdLI_1_2 l k _ _ _) _ (Nat.le_refl _)]
  · rw [ct_LI]
    unfold mk_LI
    split <;> rfl
  · have hi := (List.getElem?_eq_some_iff.1 hx).1
    have hc := cntL_take c1_LI l hx
    have hcl := cntL_le c1_LI l i
    rw [ct_LI l] at hcl
    rw [round_hdLI_1]
    simp only [lt_d, ge0_d, Int.toNat_natCast, blt_d, hi, decide_true, cond_true, Bool.and_self, gd_true, atL_of hx, rowI, List.getD_cons_zero, T.isI, T.toI, bk_wrap, int_ne]
    rw [wrapS (by omega), wrapI (by omega) (by omega), hc]
    have e1 : k + (cntL c1_LI (l.take i) : Int) + 1 = k + ((cntL c1_LI (l.take i) + c1_LI l[i] : Nat) : Int) := by simp only [c1_LI]; omega
    rw [e1]
    rfl
  · rw [round_hdLI_1]
    simp only [lt_d, Nat.lt_irrefl, decide_false, cond_false, List.take_length, ct_LI]
theorem s_hdLI : EntOk prog i_hdLI e_hdLI := ent_ok eah_LI_inj fun x hx =>
  body_sound (φ := tabS []) tabS_nil mixed (kp := kp_hdLI) (n := x.1.length + 1) func45 (c := bodyOf F_hdLI) (by kernel_rfl) (body_hdLI x.1 x.2 hx) (name_ok (by kernel_rfl))
def i_mkLI : Nat := 44
noncomputable abbrev F_mkLI : Func := f44
def kp_mkLI : List (Nat × List Nat) := [(0, [0, 4, 2]), (1, [0, 4, 20, 2]), (2, [0, 4, 20, 36, 2]), (3, [0, 4, 20, 2]), (4, [0, 4, 20, 2]), (5, [0, 4, 20, 2]), (6, [16, 2])]
def ts_mkLI : List Nat := [1, 0]
def st_mkLI_1 (l : List Int) (k : Int) (x4 : Int) (x20 : Int) (nx2 : Nat) (fx2 : Nat → Nat → T) : St := [(0, ⟨z0, [(false, [(C.ref 2 0 [0, 0] 1 0 l.length)])]⟩), (4, ⟨z0, [(false, [.tr true (T.int IntKind.i64 x4)])]⟩), (20, ⟨z0, [(false, [.tr true (T.int IntKind.i64 x20)])]⟩), (2, ⟨z0, [(false, [.tr true (.arr (1) (nx2) (fx2))])]⟩)]
def ex_mkLI_1_1 (l : List Int) (k : Int) (x4 : Int) (x20 : Int) (nx2 : Nat) (fx2 : Nat → Nat → T) : St := [(0, ⟨z0, [(false, [(C.ref 2 0 [0, 0] 1 0 l.length)])]⟩), (4, ⟨z0, [(false, [.tr true (T.int IntKind.i64 x4)])]⟩), (20, ⟨z0, [(false, [.tr true (T.int IntKind.i64 x20)])]⟩), (36, ⟨z0, []⟩), (2, ⟨z0, [(false, [.tr true (.arr (1) (nx2) (fx2))])]⟩)]
theorem round_mkLI_1 (l : List Int) (k : Int) (x4 : Int) (x20 : Int) (nx2 : Nat) (fx2 : Nat → Nat → T) (n : Nat) (K : Ex → St → Res) : roundAt prog (tabS []) kp_mkLI F_mkLI [1, 0, 1, 0] n (st_mkLI_1 l k x4 x20 nx2 fx2) K = (
 bif decide (x20 < (↑l.length : Int)) then
  gd (decide (0 ≤ x20) && (x20.toNat.blt l.length && true)) <|
  gd ((0 + x20.toNat).blt nx2 && true && true) <|
  K .normal (st_mkLI_1 l k (IntKind.i64.wrap (x4 + 1)) (IntKind.i64.wrap (x20 + 1)) (nx2) (setF (0 + x20.toNat) 0 (T.int IntKind.i64 x4) fx2))
 else
 K (.exit 0) (ex_mkLI_1_1 l k x4 x20 nx2 fx2)) := by kernel_rfl
theorem post_mkLI_1_1 (l : List Int) (k : Int) (x4 : Int) (x20 : Int) (nx2 : Nat) (fx2 : Nat → Nat → T) (n : Nat) : contAt prog (tabS []) kp_mkLI F_mkLI ts_mkLI [1, 0, 1, 0] [] n (.exit 0) (ex_mkLI_1_1 l k x4 x20 nx2 fx2) = (
 some ([(false, [.tr true (T.int IntKind.i64 x4)])], [(false, [.tr true (.arr (1) (nx2) (fx2))]), (false, [])])) := by kernel_rfl
theorem pre_mkLI (l : List Int) (k : Int) (n : Nat) : body prog (tabS []) kp_mkLI n F_mkLI [lT (eI l), aI k] = (
 loopAt prog (tabS []) kp_mkLI F_mkLI [1, 0, 1, 0] n n (st_mkLI_1 l k (k) (0) (l.length) (atL rowI l)) (contAt prog (tabS []) kp_mkLI F_mkLI ts_mkLI [1, 0, 1, 0] [] n)) := by kernel_rfl
theorem body_mkLI (l : List Int) (k : Int) (h : okh_LI (l, k)) : body prog (tabS []) kp_mkLI (l.length + 1) F_mkLI (eam_LI (l, k)) = some ([oT (.int .i64 (f_ctLI (l, k)))], [oT (eI (f_mkLI (l, k))), nul]) := by
  obtain ⟨hl, h0, h1⟩ := h
  have hbm := bm
  dsimp only at hl h0 h1
  unfold okq_LI at hl
  rw [ct_LI] at h1
  unfold eam_LI f_ctLI f_mkLI
  dsimp only
  rw [pre_mkLI]
  have hst : st_mkLI_1 l k k 0 l.length (atL rowI l) = (fun i : Nat => st_mkLI_1 l k (k + cntL c1_LI (l.take i)) (i : Nat) l.length (atL rowI (mkd m1_LI c1_LI l k i))) 0 := by simp [cntL, mkd_zero]
  rw [hst, forLoop l.length (fun i : Nat => st_mkLI_1 l k (k + cntL c1_LI (l.take i)) (i : Nat) l.length (atL rowI (mkd m1_LI c1_LI l k i))) (ex_mkLI_1_1 l k (k + l.length) l.length l.length (atL rowI (mk_LI l k))) 0 (fun i K hi => ?_) (fun K => ?_) _ (Nat.le_refl _)]
  · rw [post_mkLI_1_1]
    have := markL_len m1_LI c1_LI l k
    show some _ = some ([_], [(false, [C.tr true (T.arr 1 (mk_LI l k).length (atL rowI (mk_LI l k)))]), nul])
    rw [show (mk_LI l k).length = l.length from this, ct_LI]
    rfl
  · have hx := List.getElem?_eq_getElem hi
    have hc := cntL_take c1_LI l hx
    have hcl := cntL_le c1_LI l i
    rw [ct_LI l] at hcl
    rw [round_mkLI_1]
    simp only [lt_d, ge0_d, Int.toNat_natCast, blt_d, hi, decide_true, cond_true, Bool.and_self, gd_true, Nat.zero_add, bk_wrap]
    have hset : setF i 0 (.int .i64 (k + cntL c1_LI (l.take i))) (atL rowI (mkd m1_LI c1_LI l k i)) = atL rowI ((mkd m1_LI c1_LI l k i).set i (m1_LI l[i] (k + cntL c1_LI (l.take i)))) := set_atL (by rw [mkd_len _ _ _ _ (by omega)]; exact hi) fun j' k' => by
      rw [setF_d]
      by_cases e : j' = i
      · subst e
        have hg := mkd_get m1_LI c1_LI l k hx
        cases k' with
        | zero => simp [rowI, m1_LI]
        | succ k' => simp [atL_of hg, rowI]
      · simp [e]
    have e1 : k + (cntL c1_LI (l.take i) : Int) + 1 = k + ((cntL c1_LI (l.take i) + c1_LI l[i] : Nat) : Int) := by simp only [c1_LI]; omega
    rw [wrapS (by omega), wrapI (by omega) (by omega), hset, mkd_set m1_LI c1_LI l k hx, hc, e1]
  · rw [round_mkLI_1, mkd_all]
    simp only [lt_d, Nat.lt_irrefl, decide_false, cond_false, List.take_length, ct_LI]
    rfl
theorem s_mkLI : EntOk prog i_mkLI e_mkLI := ent_ok eam_LI_inj fun x hx =>
  body_sound (φ := tabS []) tabS_nil mixed (kp := kp_mkLI) (n := x.1.length + 1) func44 (c := bodyOf F_mkLI) (by kernel_rfl) (body_mkLI x.1 x.2 hx) (name_ok (by kernel_rfl))
def i_szLI : Nat := 63
noncomputable abbrev F_szLI : Func := f63
def kp_szLI : List (Nat × List Nat) := [(0, [0, 4]), (1, [4]), (2, [4, 40]), (3, [16]), (4, [16])]
noncomputable def e_szLI : Ent := inl [] prog (tabS []) kp_szLI 0 F_szLI
theorem s_szLI : EntOk prog i_szLI e_szLI := inl_ok tabS_nil mixed (c := bodyOf F_szLI) func63 (by kernel_rfl) (name_ok (by kernel_rfl))

def ok_LB (l : List UInt8) : Prop := l.length ≤ LM
def ea_LB (l : List UInt8) : List Arg := [aT (eB l)]
def okq_LB (l : List UInt8) : Prop := l.length ≤ BM
def ok2_LB (x : List UInt8 × List UInt8) : Prop := okq_LB x.1
def ea2_LB (x : List UInt8 × List UInt8) : List Arg := [aT (eB x.1), aT (eB x.2)]
def eah_LB (x : List UInt8 × Int) : List Arg := [aT (eB x.1), aI x.2]
def eam_LB (x : List UInt8 × Int) : List Arg := [lT (eB x.1), aI x.2]
def m1_LB : UInt8 → Int → UInt8 := (fun (_ : UInt8) k => bk k)
def c1_LB : UInt8 → Nat := fun _ => 1
def okh_LB (x : List UInt8 × Int) : Prop := okq_LB x.1 ∧ 0 ≤ x.2 ∧ x.2 + cntL c1_LB x.1 ≤ BM
def mk_LB (l : List UInt8) (k : Int) : List UInt8 := markL m1_LB c1_LB l k
def f_eqLB (x : List UInt8 × List UInt8) : Bool := decide (x.1 = x.2)
def f_hdLB (x : List UInt8 × Int) : Int := if x.1 = mk_LB x.1 x.2 then x.2 + cntL c1_LB x.1 else -1
def f_mkLB (x : List UInt8 × Int) : List UInt8 := mk_LB x.1 x.2
def f_ctLB (x : List UInt8 × Int) : Int := x.2 + cntL c1_LB x.1
noncomputable def e_toLB : Ent := ent [] ok_LB ea_LB (fun l => erT 1 (eB l)) fun l => l
noncomputable def e_eqLB : Ent := ent [] ok2_LB ea2_LB (erB 2) f_eqLB
noncomputable def e_hdLB : Ent := ent [] okh_LB eah_LB (erI 2) f_hdLB
noncomputable def e_mkLB : Ent := ent [1] okh_LB eam_LB (fun x => ([oT (.int .i64 (f_ctLB x))], [oT (eB (f_mkLB x)), nul])) fun x => x
theorem ea_LB_inj (x y : List UInt8) (h : ea_LB x = ea_LB y) : x = y := by
  simp only [ea_LB, aT, List.cons.injEq, Prod.mk.injEq, true_and, and_true, C.tr.injEq] at h
  exact eB_inj h
theorem ea2_LB_inj (x y : List UInt8 × List UInt8) (h : ea2_LB x = ea2_LB y) : x = y := by
  simp only [ea2_LB, aT, List.cons.injEq, Prod.mk.injEq, true_and, and_true, C.tr.injEq] at h
  exact Prod.ext (eB_inj h.1) (eB_inj h.2)
theorem eah_LB_inj (x y : List UInt8 × Int) (h : eah_LB x = eah_LB y) : x = y := by
  simp only [eah_LB, aI, aT, List.cons.injEq, Prod.mk.injEq, true_and, and_true, C.tr.injEq, T.int.injEq] at h
  exact Prod.ext (eB_inj h.1) h.2
theorem eam_LB_inj (x y : List UInt8 × Int) (h : eam_LB x = eam_LB y) : x = y := by
  simp only [eam_LB, lT, aI, aT, List.cons.injEq, Prod.mk.injEq, true_and, and_true, C.tr.injEq, T.int.injEq] at h
  exact Prod.ext (eB_inj h.1) h.2
theorem ct_LB : ∀ l : List UInt8, cntL c1_LB l = l.length
  | [] => rfl
  | x :: l => by simp [cntL, c1_LB, ct_LB l]; omega
def i_toLB : Nat := 54
noncomputable abbrev F_toLB : Func := f54
def kp_toLB : List (Nat × List Nat) := [(0, [0]), (1, [0, 12]), (2, [0, 12, 16]), (3, [0, 12, 16, 44]), (4, [0, 12, 16]), (5, [0, 12, 16]), (6, [8])]
def ts_toLB : List Nat := [0]
def st_toLB_1 (l : List UInt8) (nx12 : Nat) (fx12 : Nat → Nat → T) (x16 : Int) : St := [(0, ⟨z0, [(false, [.tr false (.arr (1) (l.length) (atL rowB l))])]⟩), (12, ⟨z0, [(false, [.tr true (.arr (1) (nx12) (fx12))])]⟩), (16, ⟨z0, [(false, [.tr true (T.int IntKind.i64 x16)])]⟩)]
def ex_toLB_1_1 (l : List UInt8) (nx12 : Nat) (fx12 : Nat → Nat → T) (x16 : Int) : St := [(0, ⟨z0, [(false, [.tr false (.arr (1) (l.length) (atL rowB l))])]⟩), (12, ⟨z0, [(false, [.tr true (.arr (1) (nx12) (fx12))])]⟩), (16, ⟨z0, [(false, [.tr true (T.int IntKind.i64 x16)])]⟩), (44, ⟨z0, []⟩)]
theorem round_toLB_1 (l : List UInt8) (nx12 : Nat) (fx12 : Nat → Nat → T) (x16 : Int) (n : Nat) (K : Ex → St → Res) : roundAt prog (tabS []) kp_toLB F_toLB [1, 1, 0, 1, 0] n (st_toLB_1 l nx12 fx12 x16) K = (
 bif decide (x16 < (↑l.length : Int)) then
  gd (decide (0 ≤ x16) && (x16.toNat.blt l.length && true)) <|
  gd (T.isI IntKind.u8 (atL rowB l x16.toNat 0)) <|
  gd (decide (0 ≤ x16) && (x16.toNat.blt nx12 && true)) <|
  gd ((0 + x16.toNat).blt nx12 && true && true) <|
  K .normal (st_toLB_1 l (nx12) (setF (0 + x16.toNat) 0 (T.int IntKind.u8 (atL rowB l x16.toNat 0).toI) fx12) (IntKind.i64.wrap (x16 + 1)))
 else
 K (.exit 0) (ex_toLB_1_1 l nx12 fx12 x16)) := by kernel_rfl
theorem post_toLB_1_1 (l : List UInt8) (nx12 : Nat) (fx12 : Nat → Nat → T) (x16 : Int) (n : Nat) : contAt prog (tabS []) kp_toLB F_toLB ts_toLB [1, 1, 0, 1, 0] [] n (.exit 0) (ex_toLB_1_1 l nx12 fx12 x16) = (
 gd (nx12.ble nx12 && true) <|
 gd (nx12.ble nx12 && true) <|
 some ([(false, [.tr true (.arr (1) (nx12) (fx12))])], [(false, [])])) := by kernel_rfl
theorem pre_toLB (l : List UInt8) (n : Nat) : body prog (tabS []) kp_toLB n F_toLB [aT (eB l)] = (
 gd (decide (0 ≤ (↑l.length : Int)) &&
  (decide ((↑l.length : Int) ≤ (↑l.length : Int)) &&
    (((↑l.length : Int).toNat * 1).ble 70368744177664 && (↑l.length : Int).toNat.ble 70368744177664))) <|
 gd ((↑l.length : Int).toNat.ble (↑l.length : Int).toNat && true) <|
 loopAt prog (tabS []) kp_toLB F_toLB [1, 1, 0, 1, 0] n n (st_toLB_1 l ((↑l.length : Int).toNat) (cutT 0 (↑l.length : Int).toNat (zeroT prog 5)) (0)) (contAt prog (tabS []) kp_toLB F_toLB ts_toLB [1, 1, 0, 1, 0] [] n)) := by kernel_rfl
theorem body_toLB (l : List UInt8) (hl : ok_LB l) : body prog (tabS []) kp_toLB (l.length + 1) F_toLB (ea_LB l) = some (erT 1 (eB l)) := by
  have hl' : l.length ≤ LM := hl
  have hlm := lm
  unfold ea_LB
  rw [pre_toLB]
  simp only [ge0_d, Int.toNat_natCast, ble_d, Int.le_refl, Nat.le_refl, decide_true, Bool.and_true, Bool.true_and, gd_true]
  rw [decide_eq_true (show l.length * 1 ≤ 70368744177664 by omega), decide_eq_true (show l.length ≤ 70368744177664 by omega)]
  simp only [Bool.and_true, gd_true]
  rw [zero_fill (m := 1) (row := rowB) (d := 0) l.length (fun j k => by cases k <;> kernel_rfl), ← fill_zero l 0]
  have hst : st_toLB_1 l l.length (atL rowB (fill l 0 0)) 0 = (fun i : Nat => st_toLB_1 l l.length (atL rowB (fill l 0 i)) (i : Nat)) 0 := rfl
  rw [hst, forLoop l.length (fun i : Nat => st_toLB_1 l l.length (atL rowB (fill l 0 i)) (i : Nat)) (ex_toLB_1_1 l l.length (atL rowB l) l.length) 0 (fun i K hi => ?_) (fun K => ?_) _ (Nat.le_refl _)]
  · rw [post_toLB_1_1]
    simp only [ble_d, Nat.le_refl, decide_true, gd_true, Bool.and_true]
    rfl
  · have hx := List.getElem?_eq_getElem hi
    rw [round_toLB_1]
    simp only [lt_d, ge0_d, Int.toNat_natCast, blt_d, hi, decide_true, cond_true, Bool.and_self, gd_true, atL_of hx, rowB, List.getD_cons_zero, T.isI, T.toI, Nat.zero_add]
    have hset : setF i 0 (.int .u8 (l[i].toNat : Int)) (atL rowB (fill l 0 i)) = atL rowB ((fill l 0 i).set i l[i]) := set_atL (by rw [fill_len l 0 (by omega)]; exact hi) fun j' k' => by
      rw [setF_d]
      by_cases e : j' = i
      · subst e
        cases k' with
        | zero => simp [rowB]
        | succ k' =>
          have : (fill l 0 j')[j']? = some 0 := by
            unfold fill
            rw [List.getElem?_append_right (by simp; omega), List.getElem?_replicate, if_pos (by simp; omega)]
          simp [atL_of this, rowB]
      · simp [e]
    rw [wrapS (by omega), hset, fill_set l 0 hx]
  · rw [round_toLB_1, fill_all]
    simp only [lt_d, Nat.lt_irrefl, decide_false, cond_false]
theorem s_toLB : EntOk prog i_toLB e_toLB := ent_ok ea_LB_inj fun l hl =>
  body_sound (φ := tabS []) tabS_nil mixed (kp := kp_toLB) (n := l.length + 1) func54 (c := bodyOf F_toLB) (by kernel_rfl) (body_toLB l hl) (name_ok (by kernel_rfl))
def i_eqLB : Nat := 25
noncomputable abbrev F_eqLB : Func := f25
def kp_eqLB : List (Nat × List Nat) := [(0, [0, 4]), (1, [0, 4, 40]), (2, [16]), (3, [0, 4, 20]), (4, [0, 4, 20, 56]), (5, [0, 4, 20]), (6, [0, 4, 20, 100]), (7, [16]), (8, [16])]
def ts_eqLB : List Nat := [0, 0]
def st_eqLB_1 (l r : List UInt8) (x20 : Int) : St := [(0, ⟨z0, [(false, [.tr false (.arr (1) (l.length) (atL rowB l))])]⟩), (4, ⟨z0, [(false, [.tr false (.arr (1) (r.length) (atL rowB r))])]⟩), (20, ⟨z0, [(false, [.tr true (T.int IntKind.i64 x20)])]⟩)]
def ex_eqLB_1_1 (l r : List UInt8) (x20 : Int) : St := [(16, ⟨z0, [(false, [.tr true (T.bool false)])]⟩)]
def ex_eqLB_1_2 (l r : List UInt8) (x20 : Int) : St := [(0, ⟨z0, [(false, [.tr false (.arr (1) (l.length) (atL rowB l))])]⟩), (4, ⟨z0, [(false, [.tr false (.arr (1) (r.length) (atL rowB r))])]⟩), (20, ⟨z0, [(false, [.tr true (T.int IntKind.i64 x20)])]⟩), (56, ⟨z0, []⟩)]
theorem round_eqLB_1 (l r : List UInt8) (x20 : Int) (n : Nat) (K : Ex → St → Res) : roundAt prog (tabS []) kp_eqLB F_eqLB [1, 1, 0, 1, 0] n (st_eqLB_1 l r x20) K = (
 bif decide (x20 < (↑l.length : Int)) then
  gd (decide (0 ≤ x20) && (x20.toNat.blt l.length && true)) <|
  gd (T.isI IntKind.u8 (atL rowB l x20.toNat 0)) <|
  gd (decide (0 ≤ x20) && (x20.toNat.blt r.length && true)) <|
  gd (T.isI IntKind.u8 (atL rowB r x20.toNat 0)) <|
  bif (atL rowB l x20.toNat 0).toI != (atL rowB r x20.toNat 0).toI then
   K .ret (ex_eqLB_1_1 l r x20)
  else
  K .normal (st_eqLB_1 l r (IntKind.i64.wrap (x20 + 1)))
 else
 K (.exit 0) (ex_eqLB_1_2 l r x20)) := by kernel_rfl
theorem post_eqLB_1_1 (l r : List UInt8) (x20 : Int) (n : Nat) : contAt prog (tabS []) kp_eqLB F_eqLB ts_eqLB [1, 1, 0, 1, 0] [] n .ret (ex_eqLB_1_1 l r x20) = (
 some ([(false, [.tr true (T.bool false)])], [(false, []), (false, [])])) := by kernel_rfl
theorem post_eqLB_1_2 (l r : List UInt8) (x20 : Int) (n : Nat) : contAt prog (tabS []) kp_eqLB F_eqLB ts_eqLB [1, 1, 0, 1, 0] [] n (.exit 0) (ex_eqLB_1_2 l r x20) = (
 some ([(false, [.tr true (T.bool true)])], [(false, []), (false, [])])) := by kernel_rfl
theorem pre_eqLB (l r : List UInt8) (n : Nat) : body prog (tabS []) kp_eqLB n F_eqLB [aT (eB l), aT (eB r)] = (
 bif (↑l.length : Int) != (↑r.length : Int) then
  some ([(false, [.tr true (T.bool false)])], [(false, []), (false, [])])
 else
 loopAt prog (tabS []) kp_eqLB F_eqLB [1, 1, 0, 1, 0] n n (st_eqLB_1 l r (0)) (contAt prog (tabS []) kp_eqLB F_eqLB ts_eqLB [1, 1, 0, 1, 0] [] n)) := by kernel_rfl
theorem body_eqLB (l r : List UInt8) (hl : okq_LB l) : body prog (tabS []) kp_eqLB (l.length + 1) F_eqLB (ea2_LB (l, r)) = some (erB 2 (f_eqLB (l, r))) := by
  have hbm := bm
  unfold okq_LB at hl
  unfold ea2_LB f_eqLB
  dsimp only
  rw [pre_eqLB, int_ne]
  by_cases h : l.length = r.length
  · rw [decide_eq_true (by omega)]
    simp only [Bool.not_true, cond_false]
    have hst : st_eqLB_1 l r 0 = (fun i : Nat => st_eqLB_1 l r (i : Nat)) 0 := rfl
    rw [hst, eqS l r h (fun i : Nat => st_eqLB_1 l r (i : Nat)) (fun i : Nat => ex_eqLB_1_1 l r (i : Nat)) (ex_eqLB_1_2 l r l.length) (fun i x y K hx hy => ?_) (fun K => ?_) (fun i => post_eqLB_1_1 l r _ _) (post_eqLB_1_2 l r _ _) _ (Nat.le_refl _)]
    · by_cases e : l = r
      · rw [if_pos e, decide_eq_true e]; rfl
      · rw [if_neg e, decide_eq_false e]; rfl
    · have hi := (List.getElem?_eq_some_iff.1 hx).1
      have hi' := (List.getElem?_eq_some_iff.1 hy).1
      rw [round_eqLB_1]
      simp only [lt_d, ge0_d, Int.toNat_natCast, blt_d, hi, hi', decide_true, cond_true, Bool.and_self, gd_true, atL_of hx, atL_of hy, rowB, List.getD_cons_zero, T.isI, T.toI, u8_ne]
      rw [wrapS (by omega)]
    · rw [round_eqLB_1]
      simp only [lt_d, Nat.lt_irrefl, decide_false, cond_false]
  · rw [decide_eq_false (by omega)]
    have : ¬ l = r := fun e => h (by rw [e])
    rw [decide_eq_false this]
    rfl
theorem s_eqLB : EntOk prog i_eqLB e_eqLB := ent_ok ea2_LB_inj fun x hx =>
  body_sound (φ := tabS []) tabS_nil mixed (kp := kp_eqLB) (n := x.1.length + 1) func25 (c := bodyOf F_eqLB) (by kernel_rfl) (body_eqLB x.1 x.2 hx) (name_ok (by kernel_rfl))
def i_hdLB : Nat := 29
noncomputable abbrev F_hdLB : Func := f29
def kp_hdLB : List (Nat × List Nat) := [(0, [0, 4]), (1, [0, 4, 20]), (2, [0, 4, 20, 36]), (3, [0, 4, 20]), (4, [0, 4, 20, 72]), (5, [16]), (6, [0, 4, 20]), (7, [16])]
def ts_hdLB : List Nat := [0, 0]
def st_hdLB_1 (l : List UInt8) (k : Int) (x4 : Int) (x20 : Int) : St := [(0, ⟨z0, [(false, [.tr false (.arr (1) (l.length) (atL rowB l))])]⟩), (4, ⟨z0, [(false, [.tr true (T.int IntKind.i64 x4)])]⟩), (20, ⟨z0, [(false, [.tr true (T.int IntKind.i64 x20)])]⟩)]
def ex_hdLB_1_1 (l : List UInt8) (k : Int) (x4 : Int) (x20 : Int) : St := [(16, ⟨z0, [(false, [.tr true (T.int IntKind.i64 (-1))])]⟩)]
def ex_hdLB_1_2 (l : List UInt8) (k : Int) (x4 : Int) (x20 : Int) : St := [(0, ⟨z0, [(false, [.tr false (.arr (1) (l.length) (atL rowB l))])]⟩), (4, ⟨z0, [(false, [.tr true (T.int IntKind.i64 x4)])]⟩), (20, ⟨z0, [(false, [.tr true (T.int IntKind.i64 x20)])]⟩), (36, ⟨z0, []⟩)]
theorem round_hdLB_1 (l : List UInt8) (k : Int) (x4 : Int) (x20 : Int) (n : Nat) (K : Ex → St → Res) : roundAt prog (tabS []) kp_hdLB F_hdLB [1, 0, 1, 0] n (st_hdLB_1 l k x4 x20) K = (
 bif decide (x20 < (↑l.length : Int)) then
  gd (decide (0 ≤ x20) && (x20.toNat.blt l.length && true)) <|
  gd (T.isI IntKind.u8 (atL rowB l x20.toNat 0)) <|
  bif (atL rowB l x20.toNat 0).toI != IntKind.u8.wrap x4 then
   K .ret (ex_hdLB_1_1 l k x4 x20)
  else
  K .normal (st_hdLB_1 l k (IntKind.i64.wrap (x4 + 1)) (IntKind.i64.wrap (x20 + 1)))
 else
 K (.exit 0) (ex_hdLB_1_2 l k x4 x20)) := by kernel_rfl
theorem post_hdLB_1_1 (l : List UInt8) (k : Int) (x4 : Int) (x20 : Int) (n : Nat) : contAt prog (tabS []) kp_hdLB F_hdLB ts_hdLB [1, 0, 1, 0] [] n .ret (ex_hdLB_1_1 l k x4 x20) = (
 some ([(false, [.tr true (T.int IntKind.i64 (-1))])], [(false, []), (false, [])])) := by kernel_rfl
theorem post_hdLB_1_2 (l : List UInt8) (k : Int) (x4 : Int) (x20 : Int) (n : Nat) : contAt prog (tabS []) kp_hdLB F_hdLB ts_hdLB [1, 0, 1, 0] [] n (.exit 0) (ex_hdLB_1_2 l k x4 x20) = (
 some ([(false, [.tr true (T.int IntKind.i64 x4)])], [(false, []), (false, [])])) := by kernel_rfl
theorem pre_hdLB (l : List UInt8) (k : Int) (n : Nat) : body prog (tabS []) kp_hdLB n F_hdLB [aT (eB l), aI k] = (
 loopAt prog (tabS []) kp_hdLB F_hdLB [1, 0, 1, 0] n n (st_hdLB_1 l k (k) (0)) (contAt prog (tabS []) kp_hdLB F_hdLB ts_hdLB [1, 0, 1, 0] [] n)) := by kernel_rfl
theorem body_hdLB (l : List UInt8) (k : Int) (h : okh_LB (l, k)) : body prog (tabS []) kp_hdLB (l.length + 1) F_hdLB (eah_LB (l, k)) = some (erI 2 (f_hdLB (l, k))) := by
  obtain ⟨hl, h0, h1⟩ := h
  have hbm := bm
  dsimp only at hl h0 h1
  unfold okq_LB at hl
  rw [ct_LB] at h1
  unfold eah_LB f_hdLB
  dsimp only
  rw [pre_hdLB]
  have hst : st_hdLB_1 l k k 0 = (fun i : Nat => st_hdLB_1 l k (k + cntL c1_LB (l.take i)) (i : Nat)) 0 := by simp [cntL]
  rw [hst, heldS m1_LB c1_LB l k (fun i : Nat => st_hdLB_1 l k (k + cntL c1_LB (l.take i)) (i : Nat)) (fun i : Nat => ex_hdLB_1_1 l k (k + cntL c1_LB (l.take i)) (i : Nat)) (ex_hdLB_1_2 l k (k + l.length) l.length) (fun i x K hx => ?_) (fun K => ?_) (fun i => post_hdLB_1_1 l k _ _ _) (post_hdLB_1_2 l k _ _ _) _ (Nat.le_refl _)]
  · rw [ct_LB]
    unfold mk_LB
    split <;> rfl
  · have hi := (List.getElem?_eq_some_iff.1 hx).1
    have hc := cntL_take c1_LB l hx
    have hcl := cntL_le c1_LB l i
    rw [ct_LB l] at hcl
    rw [round_hdLB_1]
    simp only [lt_d, ge0_d, Int.toNat_natCast, blt_d, hi, decide_true, cond_true, Bool.and_self, gd_true, atL_of hx, rowB, List.getD_cons_zero, T.isI, T.toI, bk_wrap, u8_ne]
    rw [wrapS (by omega), wrapI (by omega) (by omega), hc]
    have e1 : k + (cntL c1_LB (l.take i) : Int) + 1 = k + ((cntL c1_LB (l.take i) + c1_LB l[i] : Nat) : Int) := by simp only [c1_LB]; omega
    rw [e1]
    rfl
  · rw [round_hdLB_1]
    simp only [lt_d, Nat.lt_irrefl, decide_false, cond_false, List.take_length, ct_LB]
theorem s_hdLB : EntOk prog i_hdLB e_hdLB := ent_ok eah_LB_inj fun x hx =>
  body_sound (φ := tabS []) tabS_nil mixed (kp := kp_hdLB) (n := x.1.length + 1) func29 (c := bodyOf F_hdLB) (by kernel_rfl) (body_hdLB x.1 x.2 hx) (name_ok (by kernel_rfl))
def i_mkLB : Nat := 28
noncomputable abbrev F_mkLB : Func := f28
def kp_mkLB : List (Nat × List Nat) := [(0, [0, 4, 2]), (1, [0, 4, 20, 2]), (2, [0, 4, 20, 36, 2]), (3, [0, 4, 20, 2]), (4, [0, 4, 20, 2]), (5, [0, 4, 20, 2]), (6, [16, 2])]
def ts_mkLB : List Nat := [1, 0]
def st_mkLB_1 (l : List UInt8) (k : Int) (x4 : Int) (x20 : Int) (nx2 : Nat) (fx2 : Nat → Nat → T) : St := [(0, ⟨z0, [(false, [(C.ref 2 0 [0, 0] 1 0 l.length)])]⟩), (4, ⟨z0, [(false, [.tr true (T.int IntKind.i64 x4)])]⟩), (20, ⟨z0, [(false, [.tr true (T.int IntKind.i64 x20)])]⟩), (2, ⟨z0, [(false, [.tr true (.arr (1) (nx2) (fx2))])]⟩)]
def ex_mkLB_1_1 (l : List UInt8) (k : Int) (x4 : Int) (x20 : Int) (nx2 : Nat) (fx2 : Nat → Nat → T) : St := [(0, ⟨z0, [(false, [(C.ref 2 0 [0, 0] 1 0 l.length)])]⟩), (4, ⟨z0, [(false, [.tr true (T.int IntKind.i64 x4)])]⟩), (20, ⟨z0, [(false, [.tr true (T.int IntKind.i64 x20)])]⟩), (36, ⟨z0, []⟩), (2, ⟨z0, [(false, [.tr true (.arr (1) (nx2) (fx2))])]⟩)]
theorem round_mkLB_1 (l : List UInt8) (k : Int) (x4 : Int) (x20 : Int) (nx2 : Nat) (fx2 : Nat → Nat → T) (n : Nat) (K : Ex → St → Res) : roundAt prog (tabS []) kp_mkLB F_mkLB [1, 0, 1, 0] n (st_mkLB_1 l k x4 x20 nx2 fx2) K = (
 bif decide (x20 < (↑l.length : Int)) then
  gd (decide (0 ≤ x20) && (x20.toNat.blt l.length && true)) <|
  gd ((0 + x20.toNat).blt nx2 && true && true) <|
  K .normal (st_mkLB_1 l k (IntKind.i64.wrap (x4 + 1)) (IntKind.i64.wrap (x20 + 1)) (nx2) (setF (0 + x20.toNat) 0 (T.int IntKind.u8 (IntKind.u8.wrap x4)) fx2))
 else
 K (.exit 0) (ex_mkLB_1_1 l k x4 x20 nx2 fx2)) := by kernel_rfl
theorem post_mkLB_1_1 (l : List UInt8) (k : Int) (x4 : Int) (x20 : Int) (nx2 : Nat) (fx2 : Nat → Nat → T) (n : Nat) : contAt prog (tabS []) kp_mkLB F_mkLB ts_mkLB [1, 0, 1, 0] [] n (.exit 0) (ex_mkLB_1_1 l k x4 x20 nx2 fx2) = (
 some ([(false, [.tr true (T.int IntKind.i64 x4)])], [(false, [.tr true (.arr (1) (nx2) (fx2))]), (false, [])])) := by kernel_rfl
theorem pre_mkLB (l : List UInt8) (k : Int) (n : Nat) : body prog (tabS []) kp_mkLB n F_mkLB [lT (eB l), aI k] = (
 loopAt prog (tabS []) kp_mkLB F_mkLB [1, 0, 1, 0] n n (st_mkLB_1 l k (k) (0) (l.length) (atL rowB l)) (contAt prog (tabS []) kp_mkLB F_mkLB ts_mkLB [1, 0, 1, 0] [] n)) := by kernel_rfl
theorem body_mkLB (l : List UInt8) (k : Int) (h : okh_LB (l, k)) : body prog (tabS []) kp_mkLB (l.length + 1) F_mkLB (eam_LB (l, k)) = some ([oT (.int .i64 (f_ctLB (l, k)))], [oT (eB (f_mkLB (l, k))), nul]) := by
  obtain ⟨hl, h0, h1⟩ := h
  have hbm := bm
  dsimp only at hl h0 h1
  unfold okq_LB at hl
  rw [ct_LB] at h1
  unfold eam_LB f_ctLB f_mkLB
  dsimp only
  rw [pre_mkLB]
  have hst : st_mkLB_1 l k k 0 l.length (atL rowB l) = (fun i : Nat => st_mkLB_1 l k (k + cntL c1_LB (l.take i)) (i : Nat) l.length (atL rowB (mkd m1_LB c1_LB l k i))) 0 := by simp [cntL, mkd_zero]
  rw [hst, forLoop l.length (fun i : Nat => st_mkLB_1 l k (k + cntL c1_LB (l.take i)) (i : Nat) l.length (atL rowB (mkd m1_LB c1_LB l k i))) (ex_mkLB_1_1 l k (k + l.length) l.length l.length (atL rowB (mk_LB l k))) 0 (fun i K hi => ?_) (fun K => ?_) _ (Nat.le_refl _)]
  · rw [post_mkLB_1_1]
    have := markL_len m1_LB c1_LB l k
    show some _ = some ([_], [(false, [C.tr true (T.arr 1 (mk_LB l k).length (atL rowB (mk_LB l k)))]), nul])
    rw [show (mk_LB l k).length = l.length from this, ct_LB]
    rfl
  · have hx := List.getElem?_eq_getElem hi
    have hc := cntL_take c1_LB l hx
    have hcl := cntL_le c1_LB l i
    rw [ct_LB l] at hcl
    rw [round_mkLB_1]
    simp only [lt_d, ge0_d, Int.toNat_natCast, blt_d, hi, decide_true, cond_true, Bool.and_self, gd_true, Nat.zero_add, bk_wrap]
    have hset : setF i 0 (.int .u8 ((bk (k + cntL c1_LB (l.take i))).toNat : Int)) (atL rowB (mkd m1_LB c1_LB l k i)) = atL rowB ((mkd m1_LB c1_LB l k i).set i (m1_LB l[i] (k + cntL c1_LB (l.take i)))) := set_atL (by rw [mkd_len _ _ _ _ (by omega)]; exact hi) fun j' k' => by
      rw [setF_d]
      by_cases e : j' = i
      · subst e
        have hg := mkd_get m1_LB c1_LB l k hx
        cases k' with
        | zero => simp [rowB, m1_LB]
        | succ k' => simp [atL_of hg, rowB]
      · simp [e]
    have e1 : k + (cntL c1_LB (l.take i) : Int) + 1 = k + ((cntL c1_LB (l.take i) + c1_LB l[i] : Nat) : Int) := by simp only [c1_LB]; omega
    rw [wrapS (by omega), wrapI (by omega) (by omega), hset, mkd_set m1_LB c1_LB l k hx, hc, e1]
  · rw [round_mkLB_1, mkd_all]
    simp only [lt_d, Nat.lt_irrefl, decide_false, cond_false, List.take_length, ct_LB]
    rfl
theorem s_mkLB : EntOk prog i_mkLB e_mkLB := ent_ok eam_LB_inj fun x hx =>
  body_sound (φ := tabS []) tabS_nil mixed (kp := kp_mkLB) (n := x.1.length + 1) func28 (c := bodyOf F_mkLB) (by kernel_rfl) (body_mkLB x.1 x.2 hx) (name_ok (by kernel_rfl))
def i_szLB : Nat := 135
noncomputable abbrev F_szLB : Func := f135
def kp_szLB : List (Nat × List Nat) := [(0, [0, 4]), (1, [4]), (2, [4, 40]), (3, [16]), (4, [16])]
noncomputable def e_szLB : Ent := inl [] prog (tabS []) kp_szLB 0 F_szLB
theorem s_szLB : EntOk prog i_szLB e_szLB := inl_ok tabS_nil mixed (c := bodyOf F_szLB) func135 (by kernel_rfl) (name_ok (by kernel_rfl))

end Go.Mach.F