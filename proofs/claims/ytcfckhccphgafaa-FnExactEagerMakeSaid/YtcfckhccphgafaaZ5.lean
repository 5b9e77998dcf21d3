/- Lemmas and definitions of the proof (Rx Ry Vg Qd Qg Bp Rz Bq). Conditions: none. -/
import Derived.Test.YtcfckhccphgafaaZ4
set_option linter.all false
namespace Go.Mach.F
open Go Go.Mach Go.Proofs.Try
--=set_option maxRecDepth 100000
def ok_ToMl (x : Ml) : Prop := ok_RmS x.rooms ∧ ok_LI x.log
def ea_ToMl (x : Ml) : List Arg := [aR x.cs]
def f_ToMl (x : Ml) : Ml := x
noncomputable def e_ToMl : Ent := ent [] ok_ToMl ea_ToMl (fun l => erR 1 l.cs) f_ToMl
theorem ea_ToMl_inj (x y : Ml) (h : ea_ToMl x = ea_ToMl y) : x = y := by
  simp only [ea_ToMl, List.cons.injEq, and_true, true_and] at h
  exact Ml.cs_ext (aR_inj h)
theorem dm_ToMl {l : Ml} (h : ok_ToMl l) : dom ok_ToMl ea_ToMl [(0, true, [C.tr false (T.int IntKind.i64 l.c.chunks), C.tr false (T.int IntKind.i64 l.c.size), C.tr false (T.int IntKind.i64 l.c.slots), C.tr false (T.int IntKind.i64 l.c.tax), C.tr false (T.int IntKind.i64 l.c.slice), C.tr false (T.int IntKind.i64 l.c.gens), C.tr false (T.arr 11 l.rooms.length (atL Rm.cs l.rooms)), C.tr false (T.arr 1 l.log.length (atL rowI l.log))])] = true := dom_ea (ea := ea_ToMl) (x := l) h
theorem iv_ToMl {l : Ml} (h : ok_ToMl l) : inv ok_ToMl ea_ToMl [(0, true, [C.tr false (T.int IntKind.i64 l.c.chunks), C.tr false (T.int IntKind.i64 l.c.size), C.tr false (T.int IntKind.i64 l.c.slots), C.tr false (T.int IntKind.i64 l.c.tax), C.tr false (T.int IntKind.i64 l.c.slice), C.tr false (T.int IntKind.i64 l.c.gens), C.tr false (T.arr 11 l.rooms.length (atL Rm.cs l.rooms)), C.tr false (T.arr 1 l.log.length (atL rowI l.log))])] = l := inv_ea ea_ToMl_inj (x := l) h
theorem d_ToMl (l : Ml) : f_ToMl l = l := rfl
def i_ToMl : Nat := 23
noncomputable abbrev F_ToMl : Func := f23
def kp_ToMl : List (Nat × List Nat) := [(0, [4, 5, 8, 9, 12, 13, 64]), (1, [4, 5, 8, 9, 12, 13, 64]), (2, [4, 5, 8, 9, 12, 13, 64]), (3, [4, 5, 8, 9, 12, 13, 64]), (4, [8, 9, 12, 13, 64]), (5, [8, 9, 12, 13, 64])]
theorem pre_ToMl (l : Ml) (n : Nat) : body prog (tabS [(i_toCf, e_toCf), (i_toRmS, e_toRmS), (i_toLI, e_toLI)]) kp_ToMl n F_ToMl [aR l.cs] = (
 gd (dom ok_RmS ea_RmS [(0, false, [C.tr false (eL 11 Rm.cs l.2)])]) <|
 gd ((inv ok_RmS ea_RmS [(0, false, [C.tr false (eL 11 Rm.cs l.2)])]).length.ble
    (inv ok_RmS ea_RmS [(0, false, [C.tr false (eL 11 Rm.cs l.2)])]).length &&
  true) <|
 gd (dom ok_LI ea_LI [(0, false, [C.tr false (eL 1 rowI l.3)])]) <|
 gd ((inv ok_LI ea_LI [(0, false, [C.tr false (eL 1 rowI l.3)])]).length.ble
    (inv ok_LI ea_LI [(0, false, [C.tr false (eL 1 rowI l.3)])]).length &&
  true) <|
 gd ((inv ok_RmS ea_RmS [(0, false, [C.tr false (eL 11 Rm.cs l.2)])]).length.ble
    (inv ok_RmS ea_RmS [(0, false, [C.tr false (eL 11 Rm.cs l.2)])]).length &&
  true) <|
 gd ((inv ok_LI ea_LI [(0, false, [C.tr false (eL 1 rowI l.3)])]).length.ble
    (inv ok_LI ea_LI [(0, false, [C.tr false (eL 1 rowI l.3)])]).length &&
  true) <|
 gd ((inv ok_RmS ea_RmS [(0, false, [C.tr false (eL 11 Rm.cs l.2)])]).length.ble
    (inv ok_RmS ea_RmS [(0, false, [C.tr false (eL 11 Rm.cs l.2)])]).length &&
  true) <|
 gd ((inv ok_LI ea_LI [(0, false, [C.tr false (eL 1 rowI l.3)])]).length.ble
    (inv ok_LI ea_LI [(0, false, [C.tr false (eL 1 rowI l.3)])]).length &&
  true) <|
 some ([(true, [.tr true (T.int IntKind.i64 l.c.1), .tr true (T.int IntKind.i64 l.c.2), .tr true (T.int IntKind.i64 l.c.3), .tr true (T.int IntKind.i64 l.c.4), .tr true (T.int IntKind.i64 l.c.5), .tr true (T.int IntKind.i64 l.c.6), .tr true (.arr (11) ((inv ok_RmS ea_RmS [(0, false, [C.tr false (eL 11 Rm.cs l.2)])]).length) ((eL 11 Rm.cs (inv ok_RmS ea_RmS [(0, false, [C.tr false (eL 11 Rm.cs l.2)])])).fn)), .tr true (.arr (1) ((inv ok_LI ea_LI [(0, false, [C.tr false (eL 1 rowI l.3)])]).length) (atL rowI (inv ok_LI ea_LI [(0, false, [C.tr false (eL 1 rowI l.3)])])))])], [(false, [])])) := by kernel_rfl
theorem body_ToMl (l : Ml) (n : Nat) (h : ok_ToMl l) : body prog (tabS [(i_toCf, e_toCf), (i_toRmS, e_toRmS), (i_toLI, e_toLI)]) kp_ToMl n F_ToMl (ea_ToMl l) = some (erR 1 l.cs) := by
  have h0 : ok_RmS l.rooms := h.1
  have h1 : ok_LI l.log := h.2
  unfold ea_ToMl
  rw [pre_ToMl]
  simp only [lt_d, ge0_d, Int.toNat_natCast, blt_d, ble_self, beq_self, decide_true, cond_true, Bool.and_self, Bool.and_true, Bool.true_and, gd_true, Nat.zero_add, List.getD_cons_zero, List.getD_cons_succ, isI_int, toI_int, isB_bool, toB_bool, eL_T, arr_ln, arr_fn, arr_wd, arr_is, arr_get, Ml.cs, dm_toRmS h0, iv_toRmS h0, dm_toLI h1, iv_toLI h1, cut_all]
  rfl
theorem s_ToMl : EntOk prog i_ToMl e_ToMl := ent_ok ea_ToMl_inj fun x hx =>
  body_sound (φ := (tabS [(i_toCf, e_toCf), (i_toRmS, e_toRmS), (i_toLI, e_toLI)])) (tabS_cons s_toCf (tabS_cons s_toRmS (tabS_cons s_toLI tabS_nil))) mixed (kp := kp_ToMl) (n := 0) func23 (c := bodyOf F_ToMl) (by kernel_rfl) (body_ToMl x 0 hx) (name_ok (by kernel_rfl))
def okq_Ml (l : Ml) : Prop := okq_RmS l.rooms ∧ okq_LI l.log
def n_Ml (l : Ml) : Nat := n_RmS l.rooms + n_LI l.log
def ok_SzMl (x : Ml × Int) : Prop := z_Ml x.1 ∧ 0 ≤ x.2 ∧ x.2 ≤ LM
def ea_SzMl (x : Ml × Int) : List Arg := [aR x.1.cs, aI x.2]
def f_SzMl (x : Ml × Int) : Int := if (n_Ml x.1 : Int) ≤ x.2 then x.2 - n_Ml x.1 else -1
noncomputable def e_SzMl : Ent := ent [] ok_SzMl ea_SzMl (erI 2) f_SzMl
theorem ea_SzMl_inj (x y : Ml × Int) (h : ea_SzMl x = ea_SzMl y) : x = y := by
  obtain ⟨l1, k1⟩ := x
  obtain ⟨l2, k2⟩ := y
  simp only [ea_SzMl, List.cons.injEq, and_true, true_and] at h
  obtain ⟨e0, e1⟩ := h
  obtain rfl := Ml.cs_ext (aR_inj e0)
  obtain rfl := aI_inj e1
  rfl
theorem dm_SzMl {l : Ml} {k : Int} (h : ok_SzMl (l, k)) : dom ok_SzMl ea_SzMl [(0, true, [C.tr false (T.int IntKind.i64 l.c.chunks), C.tr false (T.int IntKind.i64 l.c.size), C.tr false (T.int IntKind.i64 l.c.slots), C.tr false (T.int IntKind.i64 l.c.tax), C.tr false (T.int IntKind.i64 l.c.slice), C.tr false (T.int IntKind.i64 l.c.gens), C.tr false (T.arr 11 l.rooms.length (atL Rm.cs l.rooms)), C.tr false (T.arr 1 l.log.length (atL rowI l.log))]), (0, false, [C.tr false (T.int IntKind.i64 k)])] = true := dom_ea (ea := ea_SzMl) (x := (l, k)) h
theorem iv_SzMl {l : Ml} {k : Int} (h : ok_SzMl (l, k)) : inv ok_SzMl ea_SzMl [(0, true, [C.tr false (T.int IntKind.i64 l.c.chunks), C.tr false (T.int IntKind.i64 l.c.size), C.tr false (T.int IntKind.i64 l.c.slots), C.tr false (T.int IntKind.i64 l.c.tax), C.tr false (T.int IntKind.i64 l.c.slice), C.tr false (T.int IntKind.i64 l.c.gens), C.tr false (T.arr 11 l.rooms.length (atL Rm.cs l.rooms)), C.tr false (T.arr 1 l.log.length (atL rowI l.log))]), (0, false, [C.tr false (T.int IntKind.i64 k)])] = (l, k) := inv_ea ea_SzMl_inj (x := (l, k)) h
def i_SzMl : Nat := 21
noncomputable abbrev F_SzMl : Func := f21
def kp_SzMl : List (Nat × List Nat) := [(0, [4, 8, 9]), (1, [4, 8, 9]), (2, [4, 8, 9, 40]), (3, [16]), (4, [4]), (5, [4, 64]), (6, [16]), (7, [16])]
theorem pre_SzMl (l : Ml) (k : Int) (n : Nat) : body prog (tabS [(i_szRmS, e_szRmS), (i_szLI, e_szLI)]) kp_SzMl n F_SzMl [aR l.cs, aI k] = (
 gd (dom okzz_RmS eaz_RmS [(0, false, [C.tr false (eL 11 Rm.cs l.2)]), (0, false, [C.tr false (T.int IntKind.i64 k)])]) <|
 bif decide
  (f_szRmS
      (inv okzz_RmS eaz_RmS
        [(0, false, [C.tr false (eL 11 Rm.cs l.2)]), (0, false, [C.tr false (T.int IntKind.i64 k)])]) <
    0) then
  some ([(false, [.tr true (T.int IntKind.i64 (-1))])], [(false, []), (false, [])])
 else
 bif decide
  (IntKind.i64.wrap
      (f_szRmS
          (inv okzz_RmS eaz_RmS
            [(0, false, [C.tr false (eL 11 Rm.cs l.2)]), (0, false, [C.tr false (T.int IntKind.i64 k)])]) -
        (↑l.3.length : Int)) <
    0) then
  some ([(false, [.tr true (T.int IntKind.i64 (-1))])], [(false, []), (false, [])])
 else
 bif decide
  (IntKind.i64.wrap
      (f_szRmS
          (inv okzz_RmS eaz_RmS
            [(0, false, [C.tr false (eL 11 Rm.cs l.2)]), (0, false, [C.tr false (T.int IntKind.i64 k)])]) -
        (↑l.3.length : Int)) <
    0) then
  some ([(false, [.tr true (T.int IntKind.i64 (-1))])], [(false, []), (false, [])])
 else
 some ([(false, [.tr true (T.int IntKind.i64
  (IntKind.i64.wrap
    (f_szRmS
        (inv okzz_RmS eaz_RmS
          [(0, false, [C.tr false (eL 11 Rm.cs l.2)]), (0, false, [C.tr false (T.int IntKind.i64 k)])]) -
      (↑l.3.length : Int))))])], [(false, []), (false, [])])) := by kernel_rfl
theorem body_SzMl (l : Ml) (k : Int) (n : Nat) (h : ok_SzMl (l, k)) : body prog (tabS [(i_szRmS, e_szRmS), (i_szLI, e_szLI)]) kp_SzMl n F_SzMl (ea_SzMl (l, k)) = some (erI 2 (f_SzMl (l, k))) := by
  have hzm := zm
  have hlm := lm
  obtain ⟨hz, hk0, hk1⟩ := h
  dsimp only at hz hk0 hk1
  have z0 : okz_RmS l.rooms := hz.1
  have z1 : okz_LI l.log := hz.2
  have hn : n_Ml l = n_RmS l.rooms + l.log.length := rfl
  unfold ea_SzMl f_SzMl
  dsimp only
  rw [pre_SzMl]
  have y0 : okzz_RmS (l.rooms, k) := ⟨z0, by dsimp only; omega, by dsimp only; omega⟩
  simp only [lt_d, ge0_d, Int.toNat_natCast, blt_d, ble_self, beq_self, decide_true, cond_true, Bool.and_self, Bool.and_true, Bool.true_and, gd_true, Nat.zero_add, List.getD_cons_zero, List.getD_cons_succ, isI_int, toI_int, isB_bool, toB_bool, eL_T, arr_ln, arr_fn, arr_wd, arr_is, arr_get, Ml.cs, dm_szRmS y0, iv_szRmS y0]
  by_cases e0 : (n_RmS l.rooms : Int) ≤ k
  case neg =>
    simp only [n_szRmS e0]
    rw [if_neg (by omega)]
    simp only [decide_eq_true (show (-1 : Int) < 0 by omega), cond_true]
    rfl
  simp only [y_szRmS e0]
  simp (disch := omega) only [decide_eq_false (show ¬ k - (n_RmS l.rooms : Int) < 0 by omega), cond_false, wrapI]
  have y1 : l.log.length ≤ ZM := z1
  try simp (disch := omega) only [wrapI]
  by_cases e1 : k - (n_RmS l.rooms : Int) - (l.log.length : Int) < 0
  · rw [if_neg (by omega)]
    simp only [decide_eq_true e1, cond_true]
    rfl
  simp (disch := omega) only [decide_eq_false e1, cond_false, wrapI]
  rw [if_pos (by omega), show k - (n_Ml l : Int) = k - (n_RmS l.rooms : Int) - (l.log.length : Int) by omega]
  rfl
theorem s_SzMl : EntOk prog i_SzMl e_SzMl := ent_ok ea_SzMl_inj fun x hx =>
  body_sound (φ := (tabS [(i_szRmS, e_szRmS), (i_szLI, e_szLI)])) (tabS_cons s_szRmS (tabS_cons s_szLI tabS_nil)) mixed (kp := kp_SzMl) (n := 0) func21 (c := bodyOf F_SzMl) (by kernel_rfl) (body_SzMl x.1 x.2 (0) hx) (name_ok (by kernel_rfl))
theorem y_SzMl {l : Ml} {k : Int} (h : (n_Ml l : Int) ≤ k) : f_SzMl (l, k) = k - n_Ml l := if_pos h
theorem n_SzMl {l : Ml} {k : Int} (h : ¬ (n_Ml l : Int) ≤ k) : f_SzMl (l, k) = -1 := if_neg h
theorem okn_Ml {l : Ml} (h : (n_Ml l : Int) ≤ 1048576) : ok_ToMl l ∧ okq_Ml l := ⟨⟨(okn_RmS (l := l.rooms) (by have : n_Ml l = n_RmS l.rooms + n_LI l.log := rfl; omega)).1, (okn_LI (l := l.log) (by have : n_Ml l = n_RmS l.rooms + n_LI l.log := rfl; omega)).1⟩, ⟨(okn_RmS (l := l.rooms) (by have : n_Ml l = n_RmS l.rooms + n_LI l.log := rfl; omega)).2, (okn_LI (l := l.log) (by have : n_Ml l = n_RmS l.rooms + n_LI l.log := rfl; omega)).2⟩⟩
end Go.Mach.F
namespace Go.Mach.F
open Go Go.Mach Go.Proofs.Try
--=set_option maxRecDepth 100000
def i_mkMl : Nat := 27
noncomputable abbrev F_mkMl : Func := f27
def kp_mkMl : List (Nat × List Nat) := [(0, [4, 8, 9, 2]), (1, [4, 8, 9, 2]), (2, [4, 2]), (3, [16, 2])]
noncomputable def e_mkMl : Ent := inl [1, 0] prog (tabS [(i_mkRmS, e_mkRmS), (i_mkLI, e_mkLI)]) kp_mkMl 0 F_mkMl
theorem s_mkMl : EntOk prog i_mkMl e_mkMl := inl_ok (tabS_cons s_mkRmS (tabS_cons s_mkLI tabS_nil)) mixed (c := bodyOf F_mkMl) func27 (by kernel_rfl) (name_ok (by kernel_rfl))
end Go.Mach.F
namespace Go.Mach.F
open Go Go.Mach Go.Proofs.Try
theorem cntL_set {α : Type} (c : α → Nat) : ∀ {l : List α} {j : Nat} {x y : α}, l[j]? = some x → cntL c (l.set j y) + c x = cntL c l + c y
  | [], _, _, _, h => by simp at h
  | z :: l, 0, x, y, h => by
    simp at h
    subst h
    simp only [List.set_cons_zero, cntL]
    omega
  | z :: l, j + 1, x, y, h => by
    have := cntL_set c (l := l) (j := j) (x := x) (y := y) (by simpa using h)
    simp only [List.set_cons_succ, cntL]
    omega
theorem rooms_set {l : List Rm} {j : Nat} {x y : Rm} (hq : okq_RmS l) (hx : l[j]? = some x) (hy : okq_HdS y.kids ∧ okq_SfS y.things ∧ okq_LI y.tags) (d : Nat) (hn : n1_RmS y ≤ n1_RmS x + d) : okq_RmS (l.set j y) ∧ n_RmS (l.set j y) ≤ n_RmS l + d := by
  refine ⟨⟨by rw [List.length_set]; exact hq.1, fun z hz => ?_⟩, ?_⟩
  · rcases List.mem_or_eq_of_mem_set hz with h | rfl
    · exact hq.2 _ h
    · exact hy
  · have := cntL_set n1_RmS (y := y) hx
    unfold n_RmS
    rw [List.length_set]
    omega
end Go.Mach.F
namespace Go.Mach.F
open Go Go.Mach Go.Proofs.Try
theorem set_get {α : Type} {l : List α} {j : Nat} {x y : α} (h : l[j]? = some x) : (l.set j y)[j]? = some y := by
  rw [List.getElem?_set_self (List.getElem?_eq_some_iff.1 h).1]
end Go.Mach.F
namespace Go.Mach.F
open Go Go.Mach Go.Proofs.Try
theorem cntL_app {α : Type} (c : α → Nat) : ∀ (l l' : List α), cntL c (l ++ l') = cntL c l + cntL c l'
  | [], l' => by simp [cntL]
  | x :: l, l' => by
    have := cntL_app c l l'
    simp only [List.cons_append, cntL]
    omega
end Go.Mach.F
namespace Go.Mach.F
open Go Go.Mach Go.Proofs.Try
theorem okq_ins {l : List Rm} {i : Int} {x : Rm} (hq : okq_RmS l) (hl : l.length < BM) (hx : okq_HdS x.kids ∧ okq_SfS x.things ∧ okq_LI x.tags) : okq_RmS (insL l i x) ∧ n_RmS (insL l i x) = n_RmS l + 1 + n1_RmS x := by
  have hn : (insL l i x).length = l.length + 1 := by
    unfold insL
    simp only [List.length_append, List.length_take, List.length_drop, List.length_singleton]
    omega
  refine ⟨⟨by omega, fun z hz => ?_⟩, ?_⟩
  · unfold insL at hz
    rcases List.mem_append.1 hz with h | h
    · rcases List.mem_append.1 h with h | h
      · exact hq.2 _ (List.mem_of_mem_take h)
      · rw [List.mem_singleton] at h
        subst h
        exact hx
    · exact hq.2 _ (List.mem_of_mem_drop h)
  · have e1 : cntL n1_RmS (insL l i x) = cntL n1_RmS l + n1_RmS x := by
      have e := cntL_app n1_RmS (l.take i.toNat) (l.drop i.toNat)
      rw [List.take_append_drop] at e
      have e3 : cntL n1_RmS [x] = n1_RmS x := by simp [cntL]
      unfold insL
      rw [cntL_app, cntL_app, e3]
      omega
    unfold n_RmS
    rw [hn, e1]
    omega
theorem emkM_ok {m : Ml} {up h : Hd} {b : Bool} (hq : okq_RmS m.rooms) (hl : okq_LI m.log) (hn : (n_Ml m : Int) ≤ 1048576) : (okq_RmS (emkM m up h b).1.rooms ∧ okq_LI (emkM m up h b).1.log) ∧ n_RmS (emkM m up h b).1.rooms ≤ n_RmS m.rooms + 2 ∧ (emkM m up h b).1.log = m.log := by
  have hbm := bm
  have hnm : n_Ml m = (m.rooms.length + cntL n1_RmS m.rooms) + n_LI m.log := rfl
  have triv : (okq_RmS m.rooms ∧ okq_LI m.log) ∧ n_RmS m.rooms ≤ n_RmS m.rooms + 2 ∧ m.log = m.log := ⟨⟨hq, hl⟩, by omega, rfl⟩
  have put : ∀ k : Int, k < 0 ∨ k.toNat < m.rooms.length → (okq_RmS (putM m k up h).rooms ∧ okq_LI (putM m k up h).log) ∧ n_RmS (putM m k up h).rooms ≤ n_RmS m.rooms + 2 ∧ (putM m k up h).log = m.log := fun k hk => by
    have hkid : okq_RmS (kidR m.rooms k h) ∧ n_RmS (kidR m.rooms k h) ≤ n_RmS m.rooms + 1 := by
      unfold kidR
      by_cases h0 : 0 ≤ k
      · rw [decide_eq_true h0, cond_true]
        have hlt : k.toNat < m.rooms.length := hk.resolve_left (by omega)
        have hx := getD_get hlt
        obtain ⟨x, hxe⟩ : ∃ x, x = m.rooms.getD k.toNat zRm := ⟨_, rfl⟩
        rw [← hxe] at hx ⊢
        have hm := List.mem_of_getElem? hx
        have hy := hq.2 _ hm
        have hc := cntL_mem n1_RmS hm
        have hx1 : n1_RmS x = x.kids.length + n_SfS x.things + n_LI x.tags := rfl
        exact rooms_set (y := { x with kids := h :: x.kids }) hq hx ⟨⟨by rw [List.length_cons]; omega, fun _ _ => trivial⟩, hy.2.1, hy.2.2⟩ 1 (by show (h :: x.kids).length + n_SfS x.things + n_LI x.tags ≤ _; rw [List.length_cons]; omega)
      · rw [decide_eq_false h0, cond_false]
        exact ⟨hq, Nat.le_succ _⟩
    have hkl := kidR_len m.rooms k h
    have := okq_ins (i := insP (kidR m.rooms k h) h) (x := newR h up) hkid.1 (by omega) ⟨⟨Nat.zero_le _, fun _ hz => by cases hz⟩, ⟨Nat.zero_le _, fun _ hz => by cases hz⟩, Nat.zero_le _⟩
    refine ⟨⟨this.1, hl⟩, ?_, rfl⟩
    have e := this.2
    have h0 : n1_RmS (newR h up) = 0 := rfl
    show n_RmS (insL (kidR m.rooms k h) (insP (kidR m.rooms k h) h) (newR h up)) ≤ _
    omega
  have tl : ∀ k : Int, k < 0 ∨ k.toNat < m.rooms.length → (okq_RmS (emkT m k up h b).1.rooms ∧ okq_LI (emkT m k up h b).1.log) ∧ n_RmS (emkT m k up h b).1.rooms ≤ n_RmS m.rooms + 2 ∧ (emkT m k up h b).1.log = m.log := fun k hk => by
    unfold emkT
    cases b with
    | false => exact triv
    | true =>
      rw [cond_true]
      cases decide (m.c.chunks < IntKind.i64.wrap (tkn m.rooms + 1)) with
      | true => exact triv
      | false => exact put k hk
  unfold emkM
  by_cases eu : up = ⟨0, 0⟩
  · rw [decide_eq_true eu, cond_true]
    exact tl _ (.inl (by decide))
  · rw [decide_eq_false eu, cond_false]
    by_cases e : (rsv m up).2 = 0
    · rw [decide_eq_true e, cond_true]
      cases decide (4 ≤ dpn m.rooms m.rooms.length up) with
      | true => exact triv
      | false => exact tl _ (.inr (rsv_ok e).2)
    · rw [decide_eq_false e, cond_false]
      exact triv
end Go.Mach.F
namespace Go.Mach.F
open Go Go.Mach Go.Proofs.Try
--=set_option maxRecDepth 100000
def ok_hdMl (x : Ml × Int) : Prop := okh_RmS (x.1.rooms, x.2) ∧ okh_LI (x.1.log, x.2 + cntL c1_RmS x.1.rooms)
def ea_hdMl (x : Ml × Int) : List Arg := [aR x.1.cs, aI x.2]
def f_hdMl (x : Ml × Int) : Int := (if x.1.rooms = mk_RmS x.1.rooms (x.2) then (if x.1.log = mk_LI x.1.log (x.2 + cntL c1_RmS x.1.rooms) then x.2 + cntL c1_RmS x.1.rooms + cntL c1_LI x.1.log else -1) else -1)
noncomputable def e_hdMl : Ent := ent [] ok_hdMl ea_hdMl (erI 2) f_hdMl
theorem ea_hdMl_inj (x y : Ml × Int) (h : ea_hdMl x = ea_hdMl y) : x = y := by
  obtain ⟨l1, k1⟩ := x
  obtain ⟨l2, k2⟩ := y
  simp only [ea_hdMl, List.cons.injEq, and_true, true_and] at h
  obtain ⟨e0, e1⟩ := h
  obtain rfl := Ml.cs_ext (aR_inj e0)
  obtain rfl := aI_inj e1
  rfl
theorem dm_hdMl {l : Ml} {k : Int} (h : ok_hdMl (l, k)) : dom ok_hdMl ea_hdMl [(0, true, [C.tr false (T.int IntKind.i64 l.c.chunks), C.tr false (T.int IntKind.i64 l.c.size), C.tr false (T.int IntKind.i64 l.c.slots), C.tr false (T.int IntKind.i64 l.c.tax), C.tr false (T.int IntKind.i64 l.c.slice), C.tr false (T.int IntKind.i64 l.c.gens), C.tr false (T.arr 11 l.rooms.length (atL Rm.cs l.rooms)), C.tr false (T.arr 1 l.log.length (atL rowI l.log))]), (0, false, [C.tr false (T.int IntKind.i64 k)])] = true := dom_ea (ea := ea_hdMl) (x := (l, k)) h
theorem iv_hdMl {l : Ml} {k : Int} (h : ok_hdMl (l, k)) : inv ok_hdMl ea_hdMl [(0, true, [C.tr false (T.int IntKind.i64 l.c.chunks), C.tr false (T.int IntKind.i64 l.c.size), C.tr false (T.int IntKind.i64 l.c.slots), C.tr false (T.int IntKind.i64 l.c.tax), C.tr false (T.int IntKind.i64 l.c.slice), C.tr false (T.int IntKind.i64 l.c.gens), C.tr false (T.arr 11 l.rooms.length (atL Rm.cs l.rooms)), C.tr false (T.arr 1 l.log.length (atL rowI l.log))]), (0, false, [C.tr false (T.int IntKind.i64 k)])] = (l, k) := inv_ea ea_hdMl_inj (x := (l, k)) h
def i_hdMl : Nat := 28
noncomputable abbrev F_hdMl : Func := f28
def kp_hdMl : List (Nat × List Nat) := [(0, [4, 8, 9]), (1, [4, 8, 9]), (2, [4, 8, 9, 40]), (3, [16]), (4, [4]), (5, [4, 64]), (6, [16]), (7, [16])]
theorem pre_hdMl (l : Ml) (k : Int) (n : Nat) : body prog (tabS [(i_hdRmS, e_hdRmS), (i_hdLI, e_hdLI)]) kp_hdMl n F_hdMl [aR l.cs, aI k] = (
 entK okh_RmS eah_RmS (f_hdRmS) [(0, false, [C.tr false (eL 11 Rm.cs l.2)]), (0, false, [C.tr false (T.int IntKind.i64 k)])] fun (r1 : Int) =>
 bif decide (r1 < 0) then
  some ([(false, [.tr true (T.int IntKind.i64 (-1))])], [(false, []), (false, [])])
 else
 entK okh_LI eah_LI (f_hdLI) [(0, false, [C.tr false (eL 1 rowI l.3)]), (0, false, [C.tr false (T.int IntKind.i64 r1)])] fun (r2 : Int) =>
 bif decide (r2 < 0) then
  some ([(false, [.tr true (T.int IntKind.i64 (-1))])], [(false, []), (false, [])])
 else
 some ([(false, [.tr true (T.int IntKind.i64 r2)])], [(false, []), (false, [])])) := by kernel_rfl
theorem body_hdMl (l : Ml) (k : Int) (n : Nat) (h : ok_hdMl (l, k)) : body prog (tabS [(i_hdRmS, e_hdRmS), (i_hdLI, e_hdLI)]) kp_hdMl n F_hdMl (ea_hdMl (l, k)) = some (erI 2 (f_hdMl (l, k))) := by
  have hbm := bm
  have y0 : okh_RmS (l.rooms, k) := h.1
  have z0 := y0.2.1
  have w0 := y0.2.2
  dsimp only at z0 w0
  have y1 : okh_LI (l.log, k + cntL c1_RmS l.rooms) := h.2
  have z1 := y1.2.1
  have w1 := y1.2.2
  dsimp only at z1 w1
  unfold ea_hdMl f_hdMl
  try dsimp only
  rw [pre_hdMl]
  simp only [lt_d, ge0_d, Int.toNat_natCast, blt_d, ble_self, beq_self, decide_true, cond_true, Bool.and_self, Bool.and_true, Bool.true_and, gd_true, Nat.zero_add, List.getD_cons_zero, List.getD_cons_succ, isI_int, toI_int, isB_bool, toB_bool, eL_T, arr_ln, arr_fn, arr_wd, arr_is, arr_get, eL_T, Ml.cs]
  rw [entK_of (dm_hdRmS y0) (iv_hdRmS y0)]
  by_cases e0 : l.rooms = mk_RmS l.rooms (k)
  case neg =>
    simp only [n_hdRmS e0, if_neg e0, decide_eq_true (show (-1 : Int) < 0 by omega), cond_true]
    rfl
  rw [y_hdRmS e0, if_pos e0]
  simp only [lt_d, ge0_d, Int.toNat_natCast, blt_d, ble_self, beq_self, decide_true, cond_true, Bool.and_self, Bool.and_true, Bool.true_and, gd_true, Nat.zero_add, List.getD_cons_zero, List.getD_cons_succ, isI_int, toI_int, isB_bool, toB_bool, eL_T, arr_ln, arr_fn, arr_wd, arr_is, arr_get, decide_eq_false (show ¬ k + (cntL c1_RmS l.rooms : Int) < 0 by omega), cond_false]
  rw [entK_of (dm_hdLI y1) (iv_hdLI y1)]
  by_cases e1 : l.log = mk_LI l.log (k + cntL c1_RmS l.rooms)
  case neg =>
    simp only [n_hdLI e1, if_neg e1, decide_eq_true (show (-1 : Int) < 0 by omega), cond_true]
    rfl
  rw [y_hdLI e1, if_pos e1]
  simp only [lt_d, ge0_d, Int.toNat_natCast, blt_d, ble_self, beq_self, decide_true, cond_true, Bool.and_self, Bool.and_true, Bool.true_and, gd_true, Nat.zero_add, List.getD_cons_zero, List.getD_cons_succ, isI_int, toI_int, isB_bool, toB_bool, eL_T, arr_ln, arr_fn, arr_wd, arr_is, arr_get, decide_eq_false (show ¬ k + cntL c1_RmS l.rooms + (cntL c1_LI l.log : Int) < 0 by omega), cond_false]
  try rfl
theorem s_hdMl : EntOk prog i_hdMl e_hdMl := ent_ok ea_hdMl_inj fun x hx =>
  body_sound (φ := (tabS [(i_hdRmS, e_hdRmS), (i_hdLI, e_hdLI)])) (tabS_cons s_hdRmS (tabS_cons s_hdLI tabS_nil)) mixed (kp := kp_hdMl) (n := 0) func28 (c := bodyOf F_hdMl) (by kernel_rfl) (body_hdMl x.1 x.2 (0) hx) (name_ok (by kernel_rfl))
end Go.Mach.F
section
set_option maxRecDepth 100000
set_option maxHeartbeats 4000000
namespace Go.Mach.F
open Go Go.Mach Go.Proofs.Try
def i_xEagerMake : Nat := 6
noncomputable abbrev F_xEagerMake : Func := f6
def kp_xEagerMake : List (Nat × List Nat) := [(0, [12, 16, 17, 20, 21, 24, 25, 40, 41, 52, 53, 100, 132, 136, 152, 180, 184, 212, 216, 220, 272, 276, 280, 284, 296, 300, 304, 420, 424, 428]), (1, [12, 16, 17, 20, 21, 24, 25, 36, 40, 41, 52, 53, 100, 132, 136, 152, 180, 184, 212, 216, 220, 272, 276, 280, 284, 296, 300, 304, 420, 424, 428]), (2, [12, 16, 17, 20, 21, 24, 25, 36, 40, 41, 52, 53, 100, 132, 136, 152, 180, 184, 212, 216, 220, 272, 276, 280, 284, 296, 300, 304, 420, 424, 428]), (3, [12, 16, 17, 20, 21, 24, 25, 40, 41, 52, 53, 96, 100, 132, 136, 152, 180, 184, 212, 216, 220, 272, 276, 280, 284, 296, 300, 304, 420, 424, 428]), (4, [32]), (5, [12, 16, 17, 20, 21, 24, 25, 40, 41, 44, 52, 53, 100, 132, 136, 152, 180, 184, 212, 216, 220, 272, 276, 280, 284, 296, 300, 304, 420, 424, 428]), (6, [12, 16, 17, 20, 21, 24, 25, 40, 41, 44, 48, 49, 52, 53, 100, 132, 136, 148, 152, 180, 184, 212, 216, 220, 272, 276, 280, 284, 296, 300, 304, 420, 424, 428]), (7, [12, 16, 17, 20, 21, 24, 25, 40, 41, 44, 48, 49, 52, 53, 56, 100, 132, 136, 148, 152, 180, 184, 212, 216, 220, 272, 276, 280, 284, 296, 300, 304, 420, 424, 428]), (8, [12, 16, 17, 20, 21, 24, 25, 40, 41, 44, 48, 49, 52, 53, 56, 100, 132, 136, 148, 152, 180, 184, 224, 272, 276, 280, 284, 296, 300, 304, 420, 424, 428]), (9, [32]), (10, [12, 16, 17, 20, 21, 24, 25, 40, 41, 44, 48, 49, 52, 53, 56, 100, 132, 136, 148, 152, 180, 184, 244, 272, 276, 280, 284, 296, 300, 304, 420, 424, 428]), (11, [32]), (12, [12, 16, 17, 20, 21, 24, 25, 40, 41, 44, 48, 49, 52, 53, 56, 60, 100, 132, 136, 148, 152, 180, 184, 272, 276, 280, 284, 296, 300, 304, 420, 424, 428]), (13, [12, 16, 17, 20, 21, 24, 25, 40, 41, 44, 52, 53, 56, 60, 100, 132, 136, 152, 180, 184, 272, 276, 280, 284, 296, 300, 304, 420, 424, 428]), (14, [12, 16, 17, 20, 21, 24, 25, 40, 41, 44, 52, 53, 100, 132, 136, 152, 180, 184, 308, 420, 424, 428]), (15, [32]), (16, [12, 16, 17, 20, 21, 24, 25, 40, 41, 44, 52, 53, 64, 100, 132, 136, 152, 180, 184, 420, 424, 428]), (17, [12, 16, 17, 20, 21, 24, 25, 40, 41, 44, 52, 53, 64, 100, 132, 136, 152, 180, 184, 420, 424, 428]), (18, [12, 16, 17, 20, 21, 24, 25, 40, 41, 44, 52, 53, 64, 68, 100, 132, 136, 152, 180, 184, 420, 424, 428]), (19, [12, 16, 17, 20, 21, 24, 25, 40, 41, 44, 52, 53, 64, 68, 100, 132, 136, 152, 180, 184, 420, 424, 428]), (20, [12, 16, 17, 20, 21, 24, 25, 40, 41, 44, 52, 53, 64, 68, 100, 132, 136, 152, 180, 184, 340, 420, 424, 428]), (21, [32]), (22, [12, 16, 17, 20, 21, 24, 25, 40, 41, 44, 52, 53, 64, 100, 132, 136, 152, 180, 184, 352, 420, 424, 428]), (23, [32]), (24, [40, 41, 44, 52, 53, 64, 72, 73, 76, 100, 132, 136, 152, 180, 184, 356, 388, 392, 420, 424, 428]), (25, [52, 53, 64, 152, 180, 184, 432]), (26, [32]), (27, [52, 53, 64, 68, 152, 180, 184]), (28, [64, 68]), (29, [64, 68, 452]), (30, [32]), (31, [464]), (32, [32]), (33, [32])]
def sq_xEagerMake_0 (m : Ml) (up : Hd) (h : Hd) (b : Bool) : St := initA 117 0 [aR m.cs, aR up.cs, aR h.cs, aB b]
def ce_xEagerMake_0 (m : Ml) : Nat × Ct := (17, ⟨z0, [(true, [.tr true (T.int IntKind.i64 m.c.1), .tr true (T.int IntKind.i64 m.c.2), .tr true (T.int IntKind.i64 m.c.3), .tr true (T.int IntKind.i64 m.c.4), .tr true (T.int IntKind.i64 m.c.5), .tr true (T.int IntKind.i64 m.c.6), .tr false (eL 11 Rm.cs m.2), .tr false (eL 1 rowI m.3)])]⟩)
def sq_xEagerMake_1 (m : Ml) (up : Hd) (h : Hd) (b : Bool) : St := [(12, ⟨z0, [(false, [.tr true (T.bool b)])]⟩), (16, ⟨z0, [(false, [(C.pt (Pt.ptr 17 0 [] 8 0 0))])]⟩), (ce_xEagerMake_0 m), (20, ⟨z0, [(false, [(C.pt (Pt.ptr 21 0 [] 2 0 0))])]⟩), (21, ⟨z0, [(true, [.tr true (T.int IntKind.i64 up.1), .tr true (T.int IntKind.i64 up.2)])]⟩), (24, ⟨z0, [(false, [(C.pt (Pt.ptr 25 0 [] 2 0 0))])]⟩), (25, ⟨z0, [(true, [.tr true (T.int IntKind.i64 h.1), .tr true (T.int IntKind.i64 h.2)])]⟩)]
theorem sg_xEagerMake_0 (m : Ml) (up : Hd) (h : Hd) (b : Bool) (n : Nat) (K : Ex → St → Res) : atP prog (tabS [(i_SzMl, e_SzMl), (i_ToMl, e_ToMl), (i_toHd, e_toHd), (i_sEmk, e_sEmk), (i_iEmk, e_iEmk), (i_EqMl, e_EqMl), (i_mkMl, e_mkMl), (i_hdMl, e_hdMl)]) kp_xEagerMake F_xEagerMake [0] n (sq_xEagerMake_0 m up h b) K = (
 K .normal (sq_xEagerMake_1 m up h b)) := by kernel_rfl
def sq_xEagerMake_2 (m : Ml) (up : Hd) (h : Hd) (b : Bool) : St := [(12, ⟨z0, [(false, [.tr true (T.bool b)])]⟩), (16, ⟨z0, [(false, [(C.pt (Pt.ptr 17 0 [] 8 0 0))])]⟩), (ce_xEagerMake_0 m), (20, ⟨z0, [(false, [(C.pt (Pt.ptr 21 0 [] 2 0 0))])]⟩), (21, ⟨z0, [(true, [.tr true (T.int IntKind.i64 up.1), .tr true (T.int IntKind.i64 up.2)])]⟩), (24, ⟨z0, [(false, [(C.pt (Pt.ptr 25 0 [] 2 0 0))])]⟩), (25, ⟨z0, [(true, [.tr true (T.int IntKind.i64 h.1), .tr true (T.int IntKind.i64 h.2)])]⟩), (36, ⟨z0, [(false, [.tr true (T.int IntKind.i64 1048576)])]⟩)]
theorem sg_xEagerMake_1 (m : Ml) (up : Hd) (h : Hd) (b : Bool) (n : Nat) (K : Ex → St → Res) : atP prog (tabS [(i_SzMl, e_SzMl), (i_ToMl, e_ToMl), (i_toHd, e_toHd), (i_sEmk, e_sEmk), (i_iEmk, e_iEmk), (i_EqMl, e_EqMl), (i_mkMl, e_mkMl), (i_hdMl, e_hdMl)]) kp_xEagerMake F_xEagerMake [1, 0] n (sq_xEagerMake_1 m up h b) K = (
 K .normal (sq_xEagerMake_2 m up h b)) := by kernel_rfl
def sq_xEagerMake_3 (m : Ml) (up : Hd) (h : Hd) (b : Bool) (r1 : Int) : St := [(12, ⟨z0, [(false, [.tr true (T.bool b)])]⟩), (16, ⟨z0, [(false, [(C.pt (Pt.ptr 17 0 [] 8 0 0))])]⟩), (ce_xEagerMake_0 m), (20, ⟨z0, [(false, [(C.pt (Pt.ptr 21 0 [] 2 0 0))])]⟩), (21, ⟨z0, [(true, [.tr true (T.int IntKind.i64 up.1), .tr true (T.int IntKind.i64 up.2)])]⟩), (24, ⟨z0, [(false, [(C.pt (Pt.ptr 25 0 [] 2 0 0))])]⟩), (25, ⟨z0, [(true, [.tr true (T.int IntKind.i64 h.1), .tr true (T.int IntKind.i64 h.2)])]⟩), (36, ⟨z0, [(false, [.tr true (T.int IntKind.i64 r1)])]⟩)]
theorem sg_xEagerMake_2 (m : Ml) (up : Hd) (h : Hd) (b : Bool) (n : Nat) (K : Ex → St → Res) : atP prog (tabS [(i_SzMl, e_SzMl), (i_ToMl, e_ToMl), (i_toHd, e_toHd), (i_sEmk, e_sEmk), (i_iEmk, e_iEmk), (i_EqMl, e_EqMl), (i_mkMl, e_mkMl), (i_hdMl, e_hdMl)]) kp_xEagerMake F_xEagerMake [1, 1, 0] n (sq_xEagerMake_2 m up h b) K = (
 entK ok_SzMl ea_SzMl (f_SzMl) [(0, true,
    [C.tr false (T.int IntKind.i64 m.c.1), C.tr false (T.int IntKind.i64 m.c.2),
      C.tr false (T.int IntKind.i64 m.c.3), C.tr false (T.int IntKind.i64 m.c.4),
      C.tr false (T.int IntKind.i64 m.c.5), C.tr false (T.int IntKind.i64 m.c.6), C.tr false (eL 11 Rm.cs m.2),
      C.tr false (eL 1 rowI m.3)]),
  (0, false, [C.tr false (T.int IntKind.i64 1048576)])] fun (r1 : Int) =>
 K .normal (sq_xEagerMake_3 m up h b r1)) := by kernel_rfl
def sq_xEagerMake_4 (m : Ml) (up : Hd) (h : Hd) (b : Bool) : St := [(12, ⟨z0, [(false, [.tr true (T.bool b)])]⟩), (16, ⟨z0, [(false, [(C.pt (Pt.ptr 17 0 [] 8 0 0))])]⟩), (ce_xEagerMake_0 m), (20, ⟨z0, [(false, [(C.pt (Pt.ptr 21 0 [] 2 0 0))])]⟩), (21, ⟨z0, [(true, [.tr true (T.int IntKind.i64 up.1), .tr true (T.int IntKind.i64 up.2)])]⟩), (24, ⟨z0, [(false, [(C.pt (Pt.ptr 25 0 [] 2 0 0))])]⟩), (25, ⟨z0, [(true, [.tr true (T.int IntKind.i64 h.1), .tr true (T.int IntKind.i64 h.2)])]⟩), (96, ⟨z0, []⟩)]
theorem sg_xEagerMake_3 (m : Ml) (up : Hd) (h : Hd) (b : Bool) (r1 : Int) (n : Nat) (K : Ex → St → Res) : atP prog (tabS [(i_SzMl, e_SzMl), (i_ToMl, e_ToMl), (i_toHd, e_toHd), (i_sEmk, e_sEmk), (i_iEmk, e_iEmk), (i_EqMl, e_EqMl), (i_mkMl, e_mkMl), (i_hdMl, e_hdMl)]) kp_xEagerMake F_xEagerMake [1, 1, 1, 0] n (sq_xEagerMake_3 m up h b r1) K = (
 bif decide (r1 < 0) then
  K .ret [(32, ⟨z0, [(false, [.tr true (T.bool true)])]⟩)]
 else
 K .normal (sq_xEagerMake_4 m up h b)) := by kernel_rfl
def ce_xEagerMake_1 (r3 : Ml × Int) : Nat × Ct := (41, ⟨z0, [(true, [.tr true (T.int IntKind.i64 r3.fst.c.1), .tr true (T.int IntKind.i64 r3.fst.c.2), .tr true (T.int IntKind.i64 r3.fst.c.3), .tr true (T.int IntKind.i64 r3.fst.c.4), .tr true (T.int IntKind.i64 r3.fst.c.5), .tr true (T.int IntKind.i64 r3.fst.c.6), .tr true (.arr (11) (r3.fst.2.length) ((eL 11 Rm.cs r3.fst.2).fn)), .tr true (.arr (1) (r3.fst.3.length) ((eL 1 rowI r3.fst.3).fn))])]⟩)
def ce_xEagerMake_2 (r3 : Ml × Int) : Nat × Ct := (100, ⟨z0, [(true, [.tr true (T.int IntKind.i64 r3.fst.c.1), .tr true (T.int IntKind.i64 r3.fst.c.2), .tr true (T.int IntKind.i64 r3.fst.c.3), .tr true (T.int IntKind.i64 r3.fst.c.4), .tr true (T.int IntKind.i64 r3.fst.c.5), .tr true (T.int IntKind.i64 r3.fst.c.6), (C.dead), (C.dead)]), (false, [.tr true (T.int IntKind.i64 r3.2)])]⟩)
def ce_xEagerMake_3 (r3 : Ml × Int) : Nat × Ct := (132, ⟨z0, [(true, [.tr true (T.int IntKind.i64 r3.fst.c.1), .tr true (T.int IntKind.i64 r3.fst.c.2), .tr true (T.int IntKind.i64 r3.fst.c.3), .tr true (T.int IntKind.i64 r3.fst.c.4), .tr true (T.int IntKind.i64 r3.fst.c.5), .tr true (T.int IntKind.i64 r3.fst.c.6), .tr true (T.hole), .tr true (T.hole)]), (false, [.tr true (T.int IntKind.i64 r3.2)])]⟩)
def ce_xEagerMake_4 (r3 : Ml × Int) : Nat × Ct := (136, ⟨z0, [(true, [.tr true (T.int IntKind.i64 r3.fst.c.1), .tr true (T.int IntKind.i64 r3.fst.c.2), .tr true (T.int IntKind.i64 r3.fst.c.3), .tr true (T.int IntKind.i64 r3.fst.c.4), .tr true (T.int IntKind.i64 r3.fst.c.5), .tr true (T.int IntKind.i64 r3.fst.c.6), (C.dead), (C.dead)])]⟩)
def sq_xEagerMake_5 (m : Ml) (up : Hd) (h : Hd) (b : Bool) (r3 : Ml × Int) : St := [(12, ⟨z0, [(false, [.tr true (T.bool b)])]⟩), (16, ⟨z0, [(false, [(C.pt (Pt.ptr 17 0 [] 8 0 0))])]⟩), (ce_xEagerMake_0 m), (20, ⟨z0, [(false, [(C.pt (Pt.ptr 21 0 [] 2 0 0))])]⟩), (21, ⟨z0, [(true, [.tr true (T.int IntKind.i64 up.1), .tr true (T.int IntKind.i64 up.2)])]⟩), (24, ⟨z0, [(false, [(C.pt (Pt.ptr 25 0 [] 2 0 0))])]⟩), (25, ⟨z0, [(true, [.tr true (T.int IntKind.i64 h.1), .tr true (T.int IntKind.i64 h.2)])]⟩), (40, ⟨z0, [(false, [(C.pt (Pt.ptr 41 0 [] 8 0 0))])]⟩), (ce_xEagerMake_1 r3), (44, ⟨z0, [(false, [.tr true (T.int IntKind.i64 r3.2)])]⟩), (ce_xEagerMake_2 r3), (ce_xEagerMake_3 r3), (ce_xEagerMake_4 r3)]
theorem sg_xEagerMake_4 (m : Ml) (up : Hd) (h : Hd) (b : Bool) (n : Nat) (K : Ex → St → Res) : atP prog (tabS [(i_SzMl, e_SzMl), (i_ToMl, e_ToMl), (i_toHd, e_toHd), (i_sEmk, e_sEmk), (i_iEmk, e_iEmk), (i_EqMl, e_EqMl), (i_mkMl, e_mkMl), (i_hdMl, e_hdMl)]) kp_xEagerMake F_xEagerMake [1, 1, 1, 1, 0] n (sq_xEagerMake_4 m up h b) K = (
 entK ok_ToMl ea_ToMl (f_ToMl) [(0, true,
    [C.tr false (T.int IntKind.i64 m.c.1), C.tr false (T.int IntKind.i64 m.c.2),
      C.tr false (T.int IntKind.i64 m.c.3), C.tr false (T.int IntKind.i64 m.c.4),
      C.tr false (T.int IntKind.i64 m.c.5), C.tr false (T.int IntKind.i64 m.c.6), C.tr false (eL 11 Rm.cs m.2),
      C.tr false (eL 1 rowI m.3)])] fun (r2 : Ml) =>
 gd ((0 + r2.2.length).ble r2.2.length) <|
 gd ((0 + r2.3.length).ble r2.3.length) <|
 entK ok_sEmk ea_sEmk (f_sEmk) [(0, true,
    [C.tr false (T.int IntKind.i64 r2.c.1), C.tr false (T.int IntKind.i64 r2.c.2),
      C.tr false (T.int IntKind.i64 r2.c.3), C.tr false (T.int IntKind.i64 r2.c.4),
      C.tr false (T.int IntKind.i64 r2.c.5), C.tr false (T.int IntKind.i64 r2.c.6),
      C.tr false (T.arr 11 r2.2.length (cutT 0 r2.2.length (eL 11 Rm.cs r2.2).fn)),
      C.tr false (T.arr 1 r2.3.length (cutT 0 r2.3.length (eL 1 rowI r2.3).fn))]),
  (0, true, [C.tr false (T.int IntKind.i64 up.1), C.tr false (T.int IntKind.i64 up.2)]),
  (0, true, [C.tr false (T.int IntKind.i64 h.1), C.tr false (T.int IntKind.i64 h.2)]),
  (0, false, [C.tr false (T.bool b)])] fun (r3 : Ml × Int) =>
 gd (r3.fst.2.length.ble r3.fst.2.length && true) <|
 gd (r3.fst.3.length.ble r3.fst.3.length && true) <|
 K .normal (sq_xEagerMake_5 m up h b r3)) := by kernel_rfl
def ce_xEagerMake_5 (r4 : Ml) : Nat × Ct := (49, ⟨z0, [(true, [.tr true (T.int IntKind.i64 r4.c.1), .tr true (T.int IntKind.i64 r4.c.2), .tr true (T.int IntKind.i64 r4.c.3), .tr true (T.int IntKind.i64 r4.c.4), .tr true (T.int IntKind.i64 r4.c.5), .tr true (T.int IntKind.i64 r4.c.6), .tr true (.arr (11) (r4.2.length) ((eL 11 Rm.cs r4.2).fn)), .tr true (.arr (1) (r4.3.length) ((eL 1 rowI r4.3).fn))])]⟩)
def ce_xEagerMake_6 (r4 : Ml) : Nat × Ct := (148, ⟨z0, [(true, [.tr true (T.int IntKind.i64 r4.c.1), .tr true (T.int IntKind.i64 r4.c.2), .tr true (T.int IntKind.i64 r4.c.3), .tr true (T.int IntKind.i64 r4.c.4), .tr true (T.int IntKind.i64 r4.c.5), .tr true (T.int IntKind.i64 r4.c.6), .tr true (T.hole), .tr true (T.hole)])]⟩)
def sq_xEagerMake_6 (m : Ml) (up : Hd) (h : Hd) (b : Bool) (r3 : Ml × Int) (r4 : Ml) : St := [(12, ⟨z0, [(false, [.tr true (T.bool b)])]⟩), (16, ⟨z0, [(false, [(C.pt (Pt.ptr 17 0 [] 8 0 0))])]⟩), (ce_xEagerMake_0 m), (20, ⟨z0, [(false, [(C.pt (Pt.ptr 21 0 [] 2 0 0))])]⟩), (21, ⟨z0, [(true, [.tr true (T.int IntKind.i64 up.1), .tr true (T.int IntKind.i64 up.2)])]⟩), (24, ⟨z0, [(false, [(C.pt (Pt.ptr 25 0 [] 2 0 0))])]⟩), (25, ⟨z0, [(true, [.tr true (T.int IntKind.i64 h.1), .tr true (T.int IntKind.i64 h.2)])]⟩), (40, ⟨z0, [(false, [(C.pt (Pt.ptr 41 0 [] 8 0 0))])]⟩), (ce_xEagerMake_1 r3), (44, ⟨z0, [(false, [.tr true (T.int IntKind.i64 r3.2)])]⟩), (48, ⟨z0, [(false, [(C.pt (Pt.ptr 49 0 [] 8 0 0))])]⟩), (ce_xEagerMake_5 r4), (ce_xEagerMake_2 r3), (ce_xEagerMake_3 r3), (ce_xEagerMake_4 r3), (ce_xEagerMake_6 r4)]
theorem sg_xEagerMake_5 (m : Ml) (up : Hd) (h : Hd) (b : Bool) (r3 : Ml × Int) (n : Nat) (K : Ex → St → Res) : atP prog (tabS [(i_SzMl, e_SzMl), (i_ToMl, e_ToMl), (i_toHd, e_toHd), (i_sEmk, e_sEmk), (i_iEmk, e_iEmk), (i_EqMl, e_EqMl), (i_mkMl, e_mkMl), (i_hdMl, e_hdMl)]) kp_xEagerMake F_xEagerMake [1, 1, 1, 1, 1, 0] n (sq_xEagerMake_5 m up h b r3) K = (
 entK ok_ToMl ea_ToMl (f_ToMl) [(0, true,
    [C.tr false (T.int IntKind.i64 m.c.1), C.tr false (T.int IntKind.i64 m.c.2),
      C.tr false (T.int IntKind.i64 m.c.3), C.tr false (T.int IntKind.i64 m.c.4),
      C.tr false (T.int IntKind.i64 m.c.5), C.tr false (T.int IntKind.i64 m.c.6), C.tr false (eL 11 Rm.cs m.2),
      C.tr false (eL 1 rowI m.3)])] fun (r4 : Ml) =>
 gd (r4.2.length.ble r4.2.length && true) <|
 gd (r4.3.length.ble r4.3.length && true) <|
 K .normal (sq_xEagerMake_6 m up h b r3 r4)) := by kernel_rfl
def ce_xEagerMake_7 (r5 : Ml × Int) : Nat × Ct := (53, ⟨z0, [(true, [.tr true (T.int IntKind.i64 r5.fst.c.1), .tr true (T.int IntKind.i64 r5.fst.c.2), .tr true (T.int IntKind.i64 r5.fst.c.3), .tr true (T.int IntKind.i64 r5.fst.c.4), .tr true (T.int IntKind.i64 r5.fst.c.5), .tr true (T.int IntKind.i64 r5.fst.c.6), .tr true (.arr (11) (r5.fst.2.length) ((eL 11 Rm.cs r5.fst.2).fn)), .tr true (.arr (1) (r5.fst.3.length) ((eL 1 rowI r5.fst.3).fn))])]⟩)
def ce_xEagerMake_8 (r5 : Ml × Int) : Nat × Ct := (152, ⟨z0, [(true, [.tr true (T.int IntKind.i64 r5.fst.c.1), .tr true (T.int IntKind.i64 r5.fst.c.2), .tr true (T.int IntKind.i64 r5.fst.c.3), .tr true (T.int IntKind.i64 r5.fst.c.4), .tr true (T.int IntKind.i64 r5.fst.c.5), .tr true (T.int IntKind.i64 r5.fst.c.6), (C.dead), (C.dead)]), (false, [.tr true (T.int IntKind.i64 r5.2)])]⟩)
def ce_xEagerMake_9 (r5 : Ml × Int) : Nat × Ct := (180, ⟨z0, [(true, [.tr true (T.int IntKind.i64 r5.fst.c.1), .tr true (T.int IntKind.i64 r5.fst.c.2), .tr true (T.int IntKind.i64 r5.fst.c.3), .tr true (T.int IntKind.i64 r5.fst.c.4), .tr true (T.int IntKind.i64 r5.fst.c.5), .tr true (T.int IntKind.i64 r5.fst.c.6), .tr true (T.hole), .tr true (T.hole)]), (false, [.tr true (T.int IntKind.i64 r5.2)])]⟩)
def ce_xEagerMake_10 (r5 : Ml × Int) : Nat × Ct := (184, ⟨z0, [(true, [.tr true (T.int IntKind.i64 r5.fst.c.1), .tr true (T.int IntKind.i64 r5.fst.c.2), .tr true (T.int IntKind.i64 r5.fst.c.3), .tr true (T.int IntKind.i64 r5.fst.c.4), .tr true (T.int IntKind.i64 r5.fst.c.5), .tr true (T.int IntKind.i64 r5.fst.c.6), (C.dead), (C.dead)])]⟩)
def sq_xEagerMake_7 (m : Ml) (up : Hd) (h : Hd) (b : Bool) (r3 : Ml × Int) (r4 : Ml) (r5 : Ml × Int) : St := [(12, ⟨z0, [(false, [.tr true (T.bool b)])]⟩), (16, ⟨z0, [(false, [(C.pt (Pt.ptr 17 0 [] 8 0 0))])]⟩), (ce_xEagerMake_0 m), (20, ⟨z0, [(false, [(C.pt (Pt.ptr 21 0 [] 2 0 0))])]⟩), (21, ⟨z0, [(true, [.tr true (T.int IntKind.i64 up.1), .tr true (T.int IntKind.i64 up.2)])]⟩), (24, ⟨z0, [(false, [(C.pt (Pt.ptr 25 0 [] 2 0 0))])]⟩), (25, ⟨z0, [(true, [.tr true (T.int IntKind.i64 h.1), .tr true (T.int IntKind.i64 h.2)])]⟩), (40, ⟨z0, [(false, [(C.pt (Pt.ptr 41 0 [] 8 0 0))])]⟩), (ce_xEagerMake_1 r3), (44, ⟨z0, [(false, [.tr true (T.int IntKind.i64 r3.2)])]⟩), (48, ⟨z0, [(false, [(C.pt (Pt.ptr 49 0 [] 8 0 0))])]⟩), (ce_xEagerMake_5 r4), (52, ⟨z0, [(false, [(C.pt (Pt.ptr 53 0 [] 8 0 0))])]⟩), (ce_xEagerMake_7 r5), (56, ⟨z0, [(false, [.tr true (T.int IntKind.i64 r5.2)])]⟩), (ce_xEagerMake_2 r3), (ce_xEagerMake_3 r3), (ce_xEagerMake_4 r3), (ce_xEagerMake_6 r4), (ce_xEagerMake_8 r5), (ce_xEagerMake_9 r5), (ce_xEagerMake_10 r5)]
theorem sg_xEagerMake_6 (m : Ml) (up : Hd) (h : Hd) (b : Bool) (r3 : Ml × Int) (r4 : Ml) (n : Nat) (K : Ex → St → Res) : atP prog (tabS [(i_SzMl, e_SzMl), (i_ToMl, e_ToMl), (i_toHd, e_toHd), (i_sEmk, e_sEmk), (i_iEmk, e_iEmk), (i_EqMl, e_EqMl), (i_mkMl, e_mkMl), (i_hdMl, e_hdMl)]) kp_xEagerMake F_xEagerMake [1, 1, 1, 1, 1, 1, 0] n (sq_xEagerMake_6 m up h b r3 r4) K = (
 gd ((0 + r4.2.length).ble r4.2.length) <|
 gd ((0 + r4.3.length).ble r4.3.length) <|
 entK ok_iEmk ea_iEmk (f_iEmk) [(0, true,
    [C.tr false (T.int IntKind.i64 r4.c.1), C.tr false (T.int IntKind.i64 r4.c.2),
      C.tr false (T.int IntKind.i64 r4.c.3), C.tr false (T.int IntKind.i64 r4.c.4),
      C.tr false (T.int IntKind.i64 r4.c.5), C.tr false (T.int IntKind.i64 r4.c.6),
      C.tr false (T.arr 11 r4.2.length (cutT 0 r4.2.length (eL 11 Rm.cs r4.2).fn)),
      C.tr false (T.arr 1 r4.3.length (cutT 0 r4.3.length (eL 1 rowI r4.3).fn))]),
  (0, true, [C.tr false (T.int IntKind.i64 up.1), C.tr false (T.int IntKind.i64 up.2)]),
  (0, true, [C.tr false (T.int IntKind.i64 h.1), C.tr false (T.int IntKind.i64 h.2)]),
  (0, false, [C.tr false (T.bool b)])] fun (r5 : Ml × Int) =>
 gd (r5.fst.2.length.ble r5.fst.2.length && true) <|
 gd (r5.fst.3.length.ble r5.fst.3.length && true) <|
 K .normal (sq_xEagerMake_7 m up h b r3 r4 r5)) := by kernel_rfl
def sq_xEagerMake_8 (m : Ml) (up : Hd) (h : Hd) (b : Bool) (r3 : Ml × Int) (r4 : Ml) (r5 : Ml × Int) : St := [(12, ⟨z0, [(false, [.tr true (T.bool b)])]⟩), (16, ⟨z0, [(false, [(C.pt (Pt.ptr 17 0 [] 8 0 0))])]⟩), (ce_xEagerMake_0 m), (20, ⟨z0, [(false, [(C.pt (Pt.ptr 21 0 [] 2 0 0))])]⟩), (21, ⟨z0, [(true, [.tr true (T.int IntKind.i64 up.1), .tr true (T.int IntKind.i64 up.2)])]⟩), (24, ⟨z0, [(false, [(C.pt (Pt.ptr 25 0 [] 2 0 0))])]⟩), (25, ⟨z0, [(true, [.tr true (T.int IntKind.i64 h.1), .tr true (T.int IntKind.i64 h.2)])]⟩), (40, ⟨z0, [(false, [(C.pt (Pt.ptr 41 0 [] 8 0 0))])]⟩), (ce_xEagerMake_1 r3), (44, ⟨z0, [(false, [.tr true (T.int IntKind.i64 r3.2)])]⟩), (48, ⟨z0, [(false, [(C.pt (Pt.ptr 49 0 [] 8 0 0))])]⟩), (ce_xEagerMake_5 r4), (52, ⟨z0, [(false, [(C.pt (Pt.ptr 53 0 [] 8 0 0))])]⟩), (ce_xEagerMake_7 r5), (56, ⟨z0, [(false, [.tr true (T.int IntKind.i64 r5.2)])]⟩), (ce_xEagerMake_2 r3), (ce_xEagerMake_3 r3), (ce_xEagerMake_4 r3), (ce_xEagerMake_6 r4), (ce_xEagerMake_8 r5), (ce_xEagerMake_9 r5), (ce_xEagerMake_10 r5), (224, ⟨z0, []⟩)]
theorem sg_xEagerMake_7 (m : Ml) (up : Hd) (h : Hd) (b : Bool) (r3 : Ml × Int) (r4 : Ml) (r5 : Ml × Int) (n : Nat) (K : Ex → St → Res) : atP prog (tabS [(i_SzMl, e_SzMl), (i_ToMl, e_ToMl), (i_toHd, e_toHd), (i_sEmk, e_sEmk), (i_iEmk, e_iEmk), (i_EqMl, e_EqMl), (i_mkMl, e_mkMl), (i_hdMl, e_hdMl)]) kp_xEagerMake F_xEagerMake [1, 1, 1, 1, 1, 1, 1, 0] n (sq_xEagerMake_7 m up h b r3 r4 r5) K = (
 gd ((0 + r5.fst.2.length).ble r5.fst.2.length) <|
 gd ((0 + r5.fst.3.length).ble r5.fst.3.length) <|
 gd ((0 + r3.fst.2.length).ble r3.fst.2.length) <|
 gd ((0 + r3.fst.3.length).ble r3.fst.3.length) <|
 entK ok_EqMl ea_EqMl (f_EqMl) [(0, true,
    [C.tr false (T.int IntKind.i64 r5.fst.c.1), C.tr false (T.int IntKind.i64 r5.fst.c.2),
      C.tr false (T.int IntKind.i64 r5.fst.c.3), C.tr false (T.int IntKind.i64 r5.fst.c.4),
      C.tr false (T.int IntKind.i64 r5.fst.c.5), C.tr false (T.int IntKind.i64 r5.fst.c.6),
      C.tr false (T.arr 11 r5.fst.2.length (cutT 0 r5.fst.2.length (eL 11 Rm.cs r5.fst.2).fn)),
      C.tr false (T.arr 1 r5.fst.3.length (cutT 0 r5.fst.3.length (eL 1 rowI r5.fst.3).fn))]),
  (0, true,
    [C.tr false (T.int IntKind.i64 r3.fst.c.1), C.tr false (T.int IntKind.i64 r3.fst.c.2),
      C.tr false (T.int IntKind.i64 r3.fst.c.3), C.tr false (T.int IntKind.i64 r3.fst.c.4),
      C.tr false (T.int IntKind.i64 r3.fst.c.5), C.tr false (T.int IntKind.i64 r3.fst.c.6),
      C.tr false (T.arr 11 r3.fst.2.length (cutT 0 r3.fst.2.length (eL 11 Rm.cs r3.fst.2).fn)),
      C.tr false (T.arr 1 r3.fst.3.length (cutT 0 r3.fst.3.length (eL 1 rowI r3.fst.3).fn))])] fun (r6 : Bool) =>
 bif !r6 then
  K .ret [(32, ⟨z0, [(false, [.tr true (T.bool false)])]⟩)]
 else
 bif r5.2 != r3.2 then
  K .ret [(32, ⟨z0, [(false, [.tr true (T.bool false)])]⟩)]
 else
 K .normal (sq_xEagerMake_8 m up h b r3 r4 r5)) := by kernel_rfl
def sq_xEagerMake_9 (m : Ml) (up : Hd) (h : Hd) (b : Bool) (r3 : Ml × Int) (r4 : Ml) (r5 : Ml × Int) : St := [(12, ⟨z0, [(false, [.tr true (T.bool b)])]⟩), (16, ⟨z0, [(false, [(C.pt (Pt.ptr 17 0 [] 8 0 0))])]⟩), (ce_xEagerMake_0 m), (20, ⟨z0, [(false, [(C.pt (Pt.ptr 21 0 [] 2 0 0))])]⟩), (21, ⟨z0, [(true, [.tr true (T.int IntKind.i64 up.1), .tr true (T.int IntKind.i64 up.2)])]⟩), (24, ⟨z0, [(false, [(C.pt (Pt.ptr 25 0 [] 2 0 0))])]⟩), (25, ⟨z0, [(true, [.tr true (T.int IntKind.i64 h.1), .tr true (T.int IntKind.i64 h.2)])]⟩), (40, ⟨z0, [(false, [(C.pt (Pt.ptr 41 0 [] 8 0 0))])]⟩), (ce_xEagerMake_1 r3), (44, ⟨z0, [(false, [.tr true (T.int IntKind.i64 r3.2)])]⟩), (48, ⟨z0, [(false, [(C.pt (Pt.ptr 49 0 [] 8 0 0))])]⟩), (ce_xEagerMake_5 r4), (52, ⟨z0, [(false, [(C.pt (Pt.ptr 53 0 [] 8 0 0))])]⟩), (ce_xEagerMake_7 r5), (56, ⟨z0, [(false, [.tr true (T.int IntKind.i64 r5.2)])]⟩), (ce_xEagerMake_2 r3), (ce_xEagerMake_3 r3), (ce_xEagerMake_4 r3), (ce_xEagerMake_6 r4), (ce_xEagerMake_8 r5), (ce_xEagerMake_9 r5), (ce_xEagerMake_10 r5), (244, ⟨z0, []⟩)]
theorem sg_xEagerMake_8 (m : Ml) (up : Hd) (h : Hd) (b : Bool) (r3 : Ml × Int) (r4 : Ml) (r5 : Ml × Int) (n : Nat) (K : Ex → St → Res) : atP prog (tabS [(i_SzMl, e_SzMl), (i_ToMl, e_ToMl), (i_toHd, e_toHd), (i_sEmk, e_sEmk), (i_iEmk, e_iEmk), (i_EqMl, e_EqMl), (i_mkMl, e_mkMl), (i_hdMl, e_hdMl)]) kp_xEagerMake F_xEagerMake [1, 1, 1, 1, 1, 1, 1, 1, 0] n (sq_xEagerMake_8 m up h b r3 r4 r5) K = (
 entK ok_ToMl ea_ToMl (f_ToMl) [(0, true,
    [C.tr false (T.int IntKind.i64 m.c.1), C.tr false (T.int IntKind.i64 m.c.2),
      C.tr false (T.int IntKind.i64 m.c.3), C.tr false (T.int IntKind.i64 m.c.4),
      C.tr false (T.int IntKind.i64 m.c.5), C.tr false (T.int IntKind.i64 m.c.6), C.tr false (eL 11 Rm.cs m.2),
      C.tr false (eL 1 rowI m.3)])] fun (r7 : Ml) =>
 gd ((0 + r4.2.length).ble r4.2.length) <|
 gd ((0 + r4.3.length).ble r4.3.length) <|
 gd ((0 + r7.2.length).ble r7.2.length) <|
 gd ((0 + r7.3.length).ble r7.3.length) <|
 entK ok_EqMl ea_EqMl (f_EqMl) [(0, true,
    [C.tr false (T.int IntKind.i64 r4.c.1), C.tr false (T.int IntKind.i64 r4.c.2),
      C.tr false (T.int IntKind.i64 r4.c.3), C.tr false (T.int IntKind.i64 r4.c.4),
      C.tr false (T.int IntKind.i64 r4.c.5), C.tr false (T.int IntKind.i64 r4.c.6),
      C.tr false (T.arr 11 r4.2.length (cutT 0 r4.2.length (eL 11 Rm.cs r4.2).fn)),
      C.tr false (T.arr 1 r4.3.length (cutT 0 r4.3.length (eL 1 rowI r4.3).fn))]),
  (0, true,
    [C.tr false (T.int IntKind.i64 r7.c.1), C.tr false (T.int IntKind.i64 r7.c.2),
      C.tr false (T.int IntKind.i64 r7.c.3), C.tr false (T.int IntKind.i64 r7.c.4),
      C.tr false (T.int IntKind.i64 r7.c.5), C.tr false (T.int IntKind.i64 r7.c.6),
      C.tr false (T.arr 11 r7.2.length (cutT 0 r7.2.length (eL 11 Rm.cs r7.2).fn)),
      C.tr false (T.arr 1 r7.3.length (cutT 0 r7.3.length (eL 1 rowI r7.3).fn))])] fun (r8 : Bool) =>
 bif !r8 then
  K .ret [(32, ⟨z0, [(false, [.tr true (T.bool false)])]⟩)]
 else
 K .normal (sq_xEagerMake_9 m up h b r3 r4 r5)) := by kernel_rfl
def sq_xEagerMake_10 (m : Ml) (up : Hd) (h : Hd) (b : Bool) (r3 : Ml × Int) (r4 : Ml) (r5 : Ml × Int) : St := [(12, ⟨z0, [(false, [.tr true (T.bool b)])]⟩), (16, ⟨z0, [(false, [(C.pt (Pt.ptr 17 0 [] 8 0 0))])]⟩), (ce_xEagerMake_0 m), (20, ⟨z0, [(false, [(C.pt (Pt.ptr 21 0 [] 2 0 0))])]⟩), (21, ⟨z0, [(true, [.tr true (T.int IntKind.i64 up.1), .tr true (T.int IntKind.i64 up.2)])]⟩), (24, ⟨z0, [(false, [(C.pt (Pt.ptr 25 0 [] 2 0 0))])]⟩), (25, ⟨z0, [(true, [.tr true (T.int IntKind.i64 h.1), .tr true (T.int IntKind.i64 h.2)])]⟩), (40, ⟨z0, [(false, [(C.pt (Pt.ptr 41 0 [] 8 0 0))])]⟩), (ce_xEagerMake_1 r3), (44, ⟨z0, [(false, [.tr true (T.int IntKind.i64 r3.2)])]⟩), (48, ⟨z0, [(false, [(C.pt (Pt.ptr 49 0 [] 8 0 0))])]⟩), (ce_xEagerMake_5 r4), (52, ⟨z0, [(false, [(C.pt (Pt.ptr 53 0 [] 8 0 0))])]⟩), (ce_xEagerMake_7 r5), (56, ⟨z0, [(false, [.tr true (T.int IntKind.i64 r5.2)])]⟩), (60, ⟨z0, [(false, [.tr true (T.int IntKind.i64 1)])]⟩), (ce_xEagerMake_2 r3), (ce_xEagerMake_3 r3), (ce_xEagerMake_4 r3), (ce_xEagerMake_6 r4), (ce_xEagerMake_8 r5), (ce_xEagerMake_9 r5), (ce_xEagerMake_10 r5)]
theorem sg_xEagerMake_9 (m : Ml) (up : Hd) (h : Hd) (b : Bool) (r3 : Ml × Int) (r4 : Ml) (r5 : Ml × Int) (n : Nat) (K : Ex → St → Res) : atP prog (tabS [(i_SzMl, e_SzMl), (i_ToMl, e_ToMl), (i_toHd, e_toHd), (i_sEmk, e_sEmk), (i_iEmk, e_iEmk), (i_EqMl, e_EqMl), (i_mkMl, e_mkMl), (i_hdMl, e_hdMl)]) kp_xEagerMake F_xEagerMake [1, 1, 1, 1, 1, 1, 1, 1, 1, 0] n (sq_xEagerMake_9 m up h b r3 r4 r5) K = (
 K .normal (sq_xEagerMake_10 m up h b r3 r4 r5)) := by kernel_rfl
def sq_xEagerMake_11 (m : Ml) (up : Hd) (h : Hd) (b : Bool) (r3 : Ml × Int) (r5 : Ml × Int) (r10 : List Int × Int) : St := [(12, ⟨z0, [(false, [.tr true (T.bool b)])]⟩), (16, ⟨z0, [(false, [(C.pt (Pt.ptr 17 0 [] 8 0 0))])]⟩), (ce_xEagerMake_0 m), (20, ⟨z0, [(false, [(C.pt (Pt.ptr 21 0 [] 2 0 0))])]⟩), (21, ⟨z0, [(true, [.tr true (T.int IntKind.i64 up.1), .tr true (T.int IntKind.i64 up.2)])]⟩), (24, ⟨z0, [(false, [(C.pt (Pt.ptr 25 0 [] 2 0 0))])]⟩), (25, ⟨z0, [(true, [.tr true (T.int IntKind.i64 h.1), .tr true (T.int IntKind.i64 h.2)])]⟩), (40, ⟨z0, [(false, [(C.pt (Pt.ptr 41 0 [] 8 0 0))])]⟩), (ce_xEagerMake_1 r3), (44, ⟨z0, [(false, [.tr true (T.int IntKind.i64 r3.2)])]⟩), (52, ⟨z0, [(false, [(C.pt (Pt.ptr 53 0 [] 8 0 0))])]⟩), (ce_xEagerMake_7 r5), (56, ⟨z0, [(false, [.tr true (T.int IntKind.i64 r5.2)])]⟩), (60, ⟨z0, [(false, [.tr true (T.int IntKind.i64 (f_ctLI r10))])]⟩), (ce_xEagerMake_2 r3), (ce_xEagerMake_3 r3), (ce_xEagerMake_4 r3), (ce_xEagerMake_8 r5), (ce_xEagerMake_9 r5), (ce_xEagerMake_10 r5)]
theorem sg_xEagerMake_10 (m : Ml) (up : Hd) (h : Hd) (b : Bool) (r3 : Ml × Int) (r4 : Ml) (r5 : Ml × Int) (n : Nat) (K : Ex → St → Res) : atP prog (tabS [(i_SzMl, e_SzMl), (i_ToMl, e_ToMl), (i_toHd, e_toHd), (i_sEmk, e_sEmk), (i_iEmk, e_iEmk), (i_EqMl, e_EqMl), (i_mkMl, e_mkMl), (i_hdMl, e_hdMl)]) kp_xEagerMake F_xEagerMake [1, 1, 1, 1, 1, 1, 1, 1, 1, 1, 0] n (sq_xEagerMake_10 m up h b r3 r4 r5) K = (
 gd (r4.2.length.beq r4.2.length && true) <|
 gd (r4.3.length.beq r4.3.length && true) <|
 gd (r4.2.length.beq r4.2.length && true) <|
 entK okh_RmS eam_RmS (fun x => x) [(1, false, [C.tr true (T.arr 11 r4.2.length (eL 11 Rm.cs r4.2).fn)]),
  (0, false, [C.tr false (T.int IntKind.i64 1)])] fun (r9 : List Rm × Int) =>
 gd (r4.2.length.beq (f_mkRmS r9).length && true) <|
 gd (r4.3.length.beq r4.3.length && true) <|
 entK okh_LI eam_LI (fun x => x) [(1, false, [C.tr true (T.arr 1 r4.3.length (eL 1 rowI r4.3).fn)]),
  (0, false, [C.tr false (T.int IntKind.i64 (f_ctRmS r9))])] fun (r10 : List Int × Int) =>
 gd (r4.3.length.beq (f_mkLI r10).length && true) <|
 gd (r4.2.length.beq (f_mkRmS r9).length && true) <|
 gd (r4.3.length.beq (f_mkLI r10).length && true) <|
 K .normal (sq_xEagerMake_11 m up h b r3 r5 r10)) := by kernel_rfl
def sq_xEagerMake_12 (m : Ml) (up : Hd) (h : Hd) (b : Bool) (r3 : Ml × Int) (r5 : Ml × Int) : St := [(12, ⟨z0, [(false, [.tr true (T.bool b)])]⟩), (16, ⟨z0, [(false, [(C.pt (Pt.ptr 17 0 [] 8 0 0))])]⟩), (ce_xEagerMake_0 m), (20, ⟨z0, [(false, [(C.pt (Pt.ptr 21 0 [] 2 0 0))])]⟩), (21, ⟨z0, [(true, [.tr true (T.int IntKind.i64 up.1), .tr true (T.int IntKind.i64 up.2)])]⟩), (24, ⟨z0, [(false, [(C.pt (Pt.ptr 25 0 [] 2 0 0))])]⟩), (25, ⟨z0, [(true, [.tr true (T.int IntKind.i64 h.1), .tr true (T.int IntKind.i64 h.2)])]⟩), (40, ⟨z0, [(false, [(C.pt (Pt.ptr 41 0 [] 8 0 0))])]⟩), (ce_xEagerMake_1 r3), (44, ⟨z0, [(false, [.tr true (T.int IntKind.i64 r3.2)])]⟩), (52, ⟨z0, [(false, [(C.pt (Pt.ptr 53 0 [] 8 0 0))])]⟩), (ce_xEagerMake_7 r5), (ce_xEagerMake_2 r3), (ce_xEagerMake_3 r3), (ce_xEagerMake_4 r3), (ce_xEagerMake_8 r5), (ce_xEagerMake_9 r5), (ce_xEagerMake_10 r5), (308, ⟨z0, []⟩)]
theorem sg_xEagerMake_11 (m : Ml) (up : Hd) (h : Hd) (b : Bool) (r3 : Ml × Int) (r5 : Ml × Int) (r10 : List Int × Int) (n : Nat) (K : Ex → St → Res) : atP prog (tabS [(i_SzMl, e_SzMl), (i_ToMl, e_ToMl), (i_toHd, e_toHd), (i_sEmk, e_sEmk), (i_iEmk, e_iEmk), (i_EqMl, e_EqMl), (i_mkMl, e_mkMl), (i_hdMl, e_hdMl)]) kp_xEagerMake F_xEagerMake [1, 1, 1, 1, 1, 1, 1, 1, 1, 1, 1, 0] n (sq_xEagerMake_11 m up h b r3 r5 r10) K = (
 bif decide (f_ctLI r10 < 0) then
  K .ret [(32, ⟨z0, [(false, [.tr true (T.bool false)])]⟩)]
 else
 gd ((0 + r5.fst.2.length).ble r5.fst.2.length) <|
 gd ((0 + r5.fst.3.length).ble r5.fst.3.length) <|
 gd ((0 + r3.fst.2.length).ble r3.fst.2.length) <|
 gd ((0 + r3.fst.3.length).ble r3.fst.3.length) <|
 entK ok_EqMl ea_EqMl (f_EqMl) [(0, true,
    [C.tr false (T.int IntKind.i64 r5.fst.c.1), C.tr false (T.int IntKind.i64 r5.fst.c.2),
      C.tr false (T.int IntKind.i64 r5.fst.c.3), C.tr false (T.int IntKind.i64 r5.fst.c.4),
      C.tr false (T.int IntKind.i64 r5.fst.c.5), C.tr false (T.int IntKind.i64 r5.fst.c.6),
      C.tr false (T.arr 11 r5.fst.2.length (cutT 0 r5.fst.2.length (eL 11 Rm.cs r5.fst.2).fn)),
      C.tr false (T.arr 1 r5.fst.3.length (cutT 0 r5.fst.3.length (eL 1 rowI r5.fst.3).fn))]),
  (0, true,
    [C.tr false (T.int IntKind.i64 r3.fst.c.1), C.tr false (T.int IntKind.i64 r3.fst.c.2),
      C.tr false (T.int IntKind.i64 r3.fst.c.3), C.tr false (T.int IntKind.i64 r3.fst.c.4),
      C.tr false (T.int IntKind.i64 r3.fst.c.5), C.tr false (T.int IntKind.i64 r3.fst.c.6),
      C.tr false (T.arr 11 r3.fst.2.length (cutT 0 r3.fst.2.length (eL 11 Rm.cs r3.fst.2).fn)),
      C.tr false (T.arr 1 r3.fst.3.length (cutT 0 r3.fst.3.length (eL 1 rowI r3.fst.3).fn))])] fun (r11 : Bool) =>
 bif !r11 then
  K .ret [(32, ⟨z0, [(false, [.tr true (T.bool false)])]⟩)]
 else
 bif r5.2 != r3.2 then
  K .ret [(32, ⟨z0, [(false, [.tr true (T.bool false)])]⟩)]
 else
 K .normal (sq_xEagerMake_12 m up h b r3 r5)) := by kernel_rfl
def sq_xEagerMake_13 (m : Ml) (up : Hd) (h : Hd) (b : Bool) (r3 : Ml × Int) (r5 : Ml × Int) : St := [(12, ⟨z0, [(false, [.tr true (T.bool b)])]⟩), (16, ⟨z0, [(false, [(C.pt (Pt.ptr 17 0 [] 8 0 0))])]⟩), (ce_xEagerMake_0 m), (20, ⟨z0, [(false, [(C.pt (Pt.ptr 21 0 [] 2 0 0))])]⟩), (21, ⟨z0, [(true, [.tr true (T.int IntKind.i64 up.1), .tr true (T.int IntKind.i64 up.2)])]⟩), (24, ⟨z0, [(false, [(C.pt (Pt.ptr 25 0 [] 2 0 0))])]⟩), (25, ⟨z0, [(true, [.tr true (T.int IntKind.i64 h.1), .tr true (T.int IntKind.i64 h.2)])]⟩), (40, ⟨z0, [(false, [(C.pt (Pt.ptr 41 0 [] 8 0 0))])]⟩), (ce_xEagerMake_1 r3), (44, ⟨z0, [(false, [.tr true (T.int IntKind.i64 r3.2)])]⟩), (52, ⟨z0, [(false, [(C.pt (Pt.ptr 53 0 [] 8 0 0))])]⟩), (ce_xEagerMake_7 r5), (64, ⟨z0, [(false, [.tr true (T.int IntKind.i64 1)])]⟩), (ce_xEagerMake_2 r3), (ce_xEagerMake_3 r3), (ce_xEagerMake_4 r3), (ce_xEagerMake_8 r5), (ce_xEagerMake_9 r5), (ce_xEagerMake_10 r5)]
theorem sg_xEagerMake_12 (m : Ml) (up : Hd) (h : Hd) (b : Bool) (r3 : Ml × Int) (r5 : Ml × Int) (n : Nat) (K : Ex → St → Res) : atP prog (tabS [(i_SzMl, e_SzMl), (i_ToMl, e_ToMl), (i_toHd, e_toHd), (i_sEmk, e_sEmk), (i_iEmk, e_iEmk), (i_EqMl, e_EqMl), (i_mkMl, e_mkMl), (i_hdMl, e_hdMl)]) kp_xEagerMake F_xEagerMake [1, 1, 1, 1, 1, 1, 1, 1, 1, 1, 1, 1, 0] n (sq_xEagerMake_12 m up h b r3 r5) K = (
 K .normal (sq_xEagerMake_13 m up h b r3 r5)) := by kernel_rfl
def ce_xEagerMake_11 (r5 : Ml × Int) (r12 : List Rm × Int) (r13 : List Int × Int) : Nat × Ct := (53, ⟨z0, [(true, [.tr true (T.int IntKind.i64 r5.fst.c.1), .tr true (T.int IntKind.i64 r5.fst.c.2), .tr true (T.int IntKind.i64 r5.fst.c.3), .tr true (T.int IntKind.i64 r5.fst.c.4), .tr true (T.int IntKind.i64 r5.fst.c.5), .tr true (T.int IntKind.i64 r5.fst.c.6), .tr true (.arr (11) ((f_mkRmS r12).length) (atL Rm.cs (f_mkRmS r12))), .tr true (.arr (1) ((f_mkLI r13).length) (atL rowI (f_mkLI r13)))])]⟩)
def sq_xEagerMake_14 (m : Ml) (up : Hd) (h : Hd) (b : Bool) (r3 : Ml × Int) (r5 : Ml × Int) (r12 : List Rm × Int) (r13 : List Int × Int) : St := [(12, ⟨z0, [(false, [.tr true (T.bool b)])]⟩), (16, ⟨z0, [(false, [(C.pt (Pt.ptr 17 0 [] 8 0 0))])]⟩), (ce_xEagerMake_0 m), (20, ⟨z0, [(false, [(C.pt (Pt.ptr 21 0 [] 2 0 0))])]⟩), (21, ⟨z0, [(true, [.tr true (T.int IntKind.i64 up.1), .tr true (T.int IntKind.i64 up.2)])]⟩), (24, ⟨z0, [(false, [(C.pt (Pt.ptr 25 0 [] 2 0 0))])]⟩), (25, ⟨z0, [(true, [.tr true (T.int IntKind.i64 h.1), .tr true (T.int IntKind.i64 h.2)])]⟩), (40, ⟨z0, [(false, [(C.pt (Pt.ptr 41 0 [] 8 0 0))])]⟩), (ce_xEagerMake_1 r3), (44, ⟨z0, [(false, [.tr true (T.int IntKind.i64 r3.2)])]⟩), (52, ⟨z0, [(false, [(C.pt (Pt.ptr 53 0 [] 8 0 0))])]⟩), (ce_xEagerMake_11 r5 r12 r13), (64, ⟨z0, [(false, [.tr true (T.int IntKind.i64 (f_ctLI r13))])]⟩), (ce_xEagerMake_2 r3), (ce_xEagerMake_3 r3), (ce_xEagerMake_4 r3), (ce_xEagerMake_8 r5), (ce_xEagerMake_9 r5), (ce_xEagerMake_10 r5)]
theorem sg_xEagerMake_13 (m : Ml) (up : Hd) (h : Hd) (b : Bool) (r3 : Ml × Int) (r5 : Ml × Int) (n : Nat) (K : Ex → St → Res) : atP prog (tabS [(i_SzMl, e_SzMl), (i_ToMl, e_ToMl), (i_toHd, e_toHd), (i_sEmk, e_sEmk), (i_iEmk, e_iEmk), (i_EqMl, e_EqMl), (i_mkMl, e_mkMl), (i_hdMl, e_hdMl)]) kp_xEagerMake F_xEagerMake [1, 1, 1, 1, 1, 1, 1, 1, 1, 1, 1, 1, 1, 0] n (sq_xEagerMake_13 m up h b r3 r5) K = (
 gd (r5.fst.2.length.beq r5.fst.2.length && true) <|
 gd (r5.fst.3.length.beq r5.fst.3.length && true) <|
 gd (r5.fst.2.length.beq r5.fst.2.length && true) <|
 entK okh_RmS eam_RmS (fun x => x) [(1, false, [C.tr true (T.arr 11 r5.fst.2.length (eL 11 Rm.cs r5.fst.2).fn)]),
  (0, false, [C.tr false (T.int IntKind.i64 1)])] fun (r12 : List Rm × Int) =>
 gd (r5.fst.2.length.beq (f_mkRmS r12).length && true) <|
 gd (r5.fst.3.length.beq r5.fst.3.length && true) <|
 entK okh_LI eam_LI (fun x => x) [(1, false, [C.tr true (T.arr 1 r5.fst.3.length (eL 1 rowI r5.fst.3).fn)]),
  (0, false, [C.tr false (T.int IntKind.i64 (f_ctRmS r12))])] fun (r13 : List Int × Int) =>
 gd (r5.fst.3.length.beq (f_mkLI r13).length && true) <|
 gd (r5.fst.2.length.beq (f_mkRmS r12).length && true) <|
 gd (r5.fst.3.length.beq (f_mkLI r13).length && true) <|
 K .normal (sq_xEagerMake_14 m up h b r3 r5 r12 r13)) := by kernel_rfl
def sq_xEagerMake_15 (m : Ml) (up : Hd) (h : Hd) (b : Bool) (r3 : Ml × Int) (r5 : Ml × Int) (r12 : List Rm × Int) (r13 : List Int × Int) : St := [(12, ⟨z0, [(false, [.tr true (T.bool b)])]⟩), (16, ⟨z0, [(false, [(C.pt (Pt.ptr 17 0 [] 8 0 0))])]⟩), (ce_xEagerMake_0 m), (20, ⟨z0, [(false, [(C.pt (Pt.ptr 21 0 [] 2 0 0))])]⟩), (21, ⟨z0, [(true, [.tr true (T.int IntKind.i64 up.1), .tr true (T.int IntKind.i64 up.2)])]⟩), (24, ⟨z0, [(false, [(C.pt (Pt.ptr 25 0 [] 2 0 0))])]⟩), (25, ⟨z0, [(true, [.tr true (T.int IntKind.i64 h.1), .tr true (T.int IntKind.i64 h.2)])]⟩), (40, ⟨z0, [(false, [(C.pt (Pt.ptr 41 0 [] 8 0 0))])]⟩), (ce_xEagerMake_1 r3), (44, ⟨z0, [(false, [.tr true (T.int IntKind.i64 r3.2)])]⟩), (52, ⟨z0, [(false, [(C.pt (Pt.ptr 53 0 [] 8 0 0))])]⟩), (ce_xEagerMake_11 r5 r12 r13), (64, ⟨z0, [(false, [.tr true (T.int IntKind.i64 (f_ctLI r13))])]⟩), (68, ⟨z0, [(false, [.tr true (T.int IntKind.i64 1)])]⟩), (ce_xEagerMake_2 r3), (ce_xEagerMake_3 r3), (ce_xEagerMake_4 r3), (ce_xEagerMake_8 r5), (ce_xEagerMake_9 r5), (ce_xEagerMake_10 r5)]
theorem sg_xEagerMake_14 (m : Ml) (up : Hd) (h : Hd) (b : Bool) (r3 : Ml × Int) (r5 : Ml × Int) (r12 : List Rm × Int) (r13 : List Int × Int) (n : Nat) (K : Ex → St → Res) : atP prog (tabS [(i_SzMl, e_SzMl), (i_ToMl, e_ToMl), (i_toHd, e_toHd), (i_sEmk, e_sEmk), (i_iEmk, e_iEmk), (i_EqMl, e_EqMl), (i_mkMl, e_mkMl), (i_hdMl, e_hdMl)]) kp_xEagerMake F_xEagerMake [1, 1, 1, 1, 1, 1, 1, 1, 1, 1, 1, 1, 1, 1, 0] n (sq_xEagerMake_14 m up h b r3 r5 r12 r13) K = (
 K .normal (sq_xEagerMake_15 m up h b r3 r5 r12 r13)) := by kernel_rfl
def sq_xEagerMake_16 (m : Ml) (up : Hd) (h : Hd) (b : Bool) (r3 : Ml × Int) (r5 : Ml × Int) (r12 : List Rm × Int) (r13 : List Int × Int) (r14 : Int) : St := [(12, ⟨z0, [(false, [.tr true (T.bool b)])]⟩), (16, ⟨z0, [(false, [(C.pt (Pt.ptr 17 0 [] 8 0 0))])]⟩), (ce_xEagerMake_0 m), (20, ⟨z0, [(false, [(C.pt (Pt.ptr 21 0 [] 2 0 0))])]⟩), (21, ⟨z0, [(true, [.tr true (T.int IntKind.i64 up.1), .tr true (T.int IntKind.i64 up.2)])]⟩), (24, ⟨z0, [(false, [(C.pt (Pt.ptr 25 0 [] 2 0 0))])]⟩), (25, ⟨z0, [(true, [.tr true (T.int IntKind.i64 h.1), .tr true (T.int IntKind.i64 h.2)])]⟩), (40, ⟨z0, [(false, [(C.pt (Pt.ptr 41 0 [] 8 0 0))])]⟩), (ce_xEagerMake_1 r3), (44, ⟨z0, [(false, [.tr true (T.int IntKind.i64 r3.2)])]⟩), (52, ⟨z0, [(false, [(C.pt (Pt.ptr 53 0 [] 8 0 0))])]⟩), (ce_xEagerMake_11 r5 r12 r13), (64, ⟨z0, [(false, [.tr true (T.int IntKind.i64 (f_ctLI r13))])]⟩), (68, ⟨z0, [(false, [.tr true (T.int IntKind.i64 r14)])]⟩), (ce_xEagerMake_2 r3), (ce_xEagerMake_3 r3), (ce_xEagerMake_4 r3), (ce_xEagerMake_8 r5), (ce_xEagerMake_9 r5), (ce_xEagerMake_10 r5)]
theorem sg_xEagerMake_15 (m : Ml) (up : Hd) (h : Hd) (b : Bool) (r3 : Ml × Int) (r5 : Ml × Int) (r12 : List Rm × Int) (r13 : List Int × Int) (n : Nat) (K : Ex → St → Res) : atP prog (tabS [(i_SzMl, e_SzMl), (i_ToMl, e_ToMl), (i_toHd, e_toHd), (i_sEmk, e_sEmk), (i_iEmk, e_iEmk), (i_EqMl, e_EqMl), (i_mkMl, e_mkMl), (i_hdMl, e_hdMl)]) kp_xEagerMake F_xEagerMake [1, 1, 1, 1, 1, 1, 1, 1, 1, 1, 1, 1, 1, 1, 1, 0] n (sq_xEagerMake_15 m up h b r3 r5 r12 r13) K = (
 gd ((0 + (f_mkRmS r12).length).ble (f_mkRmS r12).length) <|
 gd ((0 + (f_mkLI r13).length).ble (f_mkLI r13).length) <|
 entK ok_hdMl ea_hdMl (f_hdMl) [(0, true,
    [C.tr false (T.int IntKind.i64 r5.fst.c.1), C.tr false (T.int IntKind.i64 r5.fst.c.2),
      C.tr false (T.int IntKind.i64 r5.fst.c.3), C.tr false (T.int IntKind.i64 r5.fst.c.4),
      C.tr false (T.int IntKind.i64 r5.fst.c.5), C.tr false (T.int IntKind.i64 r5.fst.c.6),
      C.tr false
        (T.arr 11 (f_mkRmS r12).length (cutT 0 (f_mkRmS r12).length (atL Rm.cs (f_mkRmS r12)))),
      C.tr false
        (T.arr 1 (f_mkLI r13).length (cutT 0 (f_mkLI r13).length (atL rowI (f_mkLI r13))))]),
  (0, false, [C.tr false (T.int IntKind.i64 1)])] fun (r14 : Int) =>
 K .normal (sq_xEagerMake_16 m up h b r3 r5 r12 r13 r14)) := by kernel_rfl
def sq_xEagerMake_17 (m : Ml) (up : Hd) (h : Hd) (b : Bool) (r3 : Ml × Int) (r5 : Ml × Int) (r12 : List Rm × Int) (r13 : List Int × Int) (r14 : Int) : St := [(12, ⟨z0, [(false, [.tr true (T.bool b)])]⟩), (16, ⟨z0, [(false, [(C.pt (Pt.ptr 17 0 [] 8 0 0))])]⟩), (ce_xEagerMake_0 m), (20, ⟨z0, [(false, [(C.pt (Pt.ptr 21 0 [] 2 0 0))])]⟩), (21, ⟨z0, [(true, [.tr true (T.int IntKind.i64 up.1), .tr true (T.int IntKind.i64 up.2)])]⟩), (24, ⟨z0, [(false, [(C.pt (Pt.ptr 25 0 [] 2 0 0))])]⟩), (25, ⟨z0, [(true, [.tr true (T.int IntKind.i64 h.1), .tr true (T.int IntKind.i64 h.2)])]⟩), (40, ⟨z0, [(false, [(C.pt (Pt.ptr 41 0 [] 8 0 0))])]⟩), (ce_xEagerMake_1 r3), (44, ⟨z0, [(false, [.tr true (T.int IntKind.i64 r3.2)])]⟩), (52, ⟨z0, [(false, [(C.pt (Pt.ptr 53 0 [] 8 0 0))])]⟩), (ce_xEagerMake_11 r5 r12 r13), (64, ⟨z0, [(false, [.tr true (T.int IntKind.i64 (f_ctLI r13))])]⟩), (68, ⟨z0, [(false, [.tr true (T.int IntKind.i64 r14)])]⟩), (ce_xEagerMake_2 r3), (ce_xEagerMake_3 r3), (ce_xEagerMake_4 r3), (ce_xEagerMake_8 r5), (ce_xEagerMake_9 r5), (ce_xEagerMake_10 r5), (340, ⟨z0, []⟩)]
theorem sg_xEagerMake_16 (m : Ml) (up : Hd) (h : Hd) (b : Bool) (r3 : Ml × Int) (r5 : Ml × Int) (r12 : List Rm × Int) (r13 : List Int × Int) (r14 : Int) (n : Nat) (K : Ex → St → Res) : atP prog (tabS [(i_SzMl, e_SzMl), (i_ToMl, e_ToMl), (i_toHd, e_toHd), (i_sEmk, e_sEmk), (i_iEmk, e_iEmk), (i_EqMl, e_EqMl), (i_mkMl, e_mkMl), (i_hdMl, e_hdMl)]) kp_xEagerMake F_xEagerMake [1, 1, 1, 1, 1, 1, 1, 1, 1, 1, 1, 1, 1, 1, 1, 1, 0] n (sq_xEagerMake_16 m up h b r3 r5 r12 r13 r14) K = (
 bif decide (r14 < 0) then
  K .ret [(32, ⟨z0, [(false, [.tr true (T.bool false)])]⟩)]
 else
 K .normal (sq_xEagerMake_17 m up h b r3 r5 r12 r13 r14)) := by kernel_rfl
def sq_xEagerMake_18 (m : Ml) (up : Hd) (h : Hd) (b : Bool) (r3 : Ml × Int) (r5 : Ml × Int) (r12 : List Rm × Int) (r13 : List Int × Int) : St := [(12, ⟨z0, [(false, [.tr true (T.bool b)])]⟩), (16, ⟨z0, [(false, [(C.pt (Pt.ptr 17 0 [] 8 0 0))])]⟩), (ce_xEagerMake_0 m), (20, ⟨z0, [(false, [(C.pt (Pt.ptr 21 0 [] 2 0 0))])]⟩), (21, ⟨z0, [(true, [.tr true (T.int IntKind.i64 up.1), .tr true (T.int IntKind.i64 up.2)])]⟩), (24, ⟨z0, [(false, [(C.pt (Pt.ptr 25 0 [] 2 0 0))])]⟩), (25, ⟨z0, [(true, [.tr true (T.int IntKind.i64 h.1), .tr true (T.int IntKind.i64 h.2)])]⟩), (40, ⟨z0, [(false, [(C.pt (Pt.ptr 41 0 [] 8 0 0))])]⟩), (ce_xEagerMake_1 r3), (44, ⟨z0, [(false, [.tr true (T.int IntKind.i64 r3.2)])]⟩), (52, ⟨z0, [(false, [(C.pt (Pt.ptr 53 0 [] 8 0 0))])]⟩), (ce_xEagerMake_11 r5 r12 r13), (64, ⟨z0, [(false, [.tr true (T.int IntKind.i64 (f_ctLI r13))])]⟩), (ce_xEagerMake_2 r3), (ce_xEagerMake_3 r3), (ce_xEagerMake_4 r3), (ce_xEagerMake_8 r5), (ce_xEagerMake_9 r5), (ce_xEagerMake_10 r5), (352, ⟨z0, []⟩)]
theorem sg_xEagerMake_17 (m : Ml) (up : Hd) (h : Hd) (b : Bool) (r3 : Ml × Int) (r5 : Ml × Int) (r12 : List Rm × Int) (r13 : List Int × Int) (r14 : Int) (n : Nat) (K : Ex → St → Res) : atP prog (tabS [(i_SzMl, e_SzMl), (i_ToMl, e_ToMl), (i_toHd, e_toHd), (i_sEmk, e_sEmk), (i_iEmk, e_iEmk), (i_EqMl, e_EqMl), (i_mkMl, e_mkMl), (i_hdMl, e_hdMl)]) kp_xEagerMake F_xEagerMake [1, 1, 1, 1, 1, 1, 1, 1, 1, 1, 1, 1, 1, 1, 1, 1, 1, 0] n (sq_xEagerMake_17 m up h b r3 r5 r12 r13 r14) K = (
 bif r14 != f_ctLI r13 then
  K .ret [(32, ⟨z0, [(false, [.tr true (T.bool false)])]⟩)]
 else
 K .normal (sq_xEagerMake_18 m up h b r3 r5 r12 r13)) := by kernel_rfl
def ce_xEagerMake_12 (r16 : Ml × Int) : Nat × Ct := (73, ⟨z0, [(true, [.tr true (T.int IntKind.i64 r16.fst.c.1), .tr true (T.int IntKind.i64 r16.fst.c.2), .tr true (T.int IntKind.i64 r16.fst.c.3), .tr true (T.int IntKind.i64 r16.fst.c.4), .tr true (T.int IntKind.i64 r16.fst.c.5), .tr true (T.int IntKind.i64 r16.fst.c.6), .tr true (.arr (11) (r16.fst.2.length) ((eL 11 Rm.cs r16.fst.2).fn)), .tr true (.arr (1) (r16.fst.3.length) ((eL 1 rowI r16.fst.3).fn))])]⟩)
def ce_xEagerMake_13 (r16 : Ml × Int) : Nat × Ct := (356, ⟨z0, [(true, [.tr true (T.int IntKind.i64 r16.fst.c.1), .tr true (T.int IntKind.i64 r16.fst.c.2), .tr true (T.int IntKind.i64 r16.fst.c.3), .tr true (T.int IntKind.i64 r16.fst.c.4), .tr true (T.int IntKind.i64 r16.fst.c.5), .tr true (T.int IntKind.i64 r16.fst.c.6), (C.dead), (C.dead)]), (false, [.tr true (T.int IntKind.i64 r16.2)])]⟩)
def ce_xEagerMake_14 (r16 : Ml × Int) : Nat × Ct := (388, ⟨z0, [(true, [.tr true (T.int IntKind.i64 r16.fst.c.1), .tr true (T.int IntKind.i64 r16.fst.c.2), .tr true (T.int IntKind.i64 r16.fst.c.3), .tr true (T.int IntKind.i64 r16.fst.c.4), .tr true (T.int IntKind.i64 r16.fst.c.5), .tr true (T.int IntKind.i64 r16.fst.c.6), .tr true (T.hole), .tr true (T.hole)]), (false, [.tr true (T.int IntKind.i64 r16.2)])]⟩)
def ce_xEagerMake_15 (r16 : Ml × Int) : Nat × Ct := (392, ⟨z0, [(true, [.tr true (T.int IntKind.i64 r16.fst.c.1), .tr true (T.int IntKind.i64 r16.fst.c.2), .tr true (T.int IntKind.i64 r16.fst.c.3), .tr true (T.int IntKind.i64 r16.fst.c.4), .tr true (T.int IntKind.i64 r16.fst.c.5), .tr true (T.int IntKind.i64 r16.fst.c.6), (C.dead), (C.dead)])]⟩)
def sq_xEagerMake_19 (m : Ml) (up : Hd) (h : Hd) (b : Bool) (r3 : Ml × Int) (r5 : Ml × Int) (r12 : List Rm × Int) (r13 : List Int × Int) (r16 : Ml × Int) : St := [(40, ⟨z0, [(false, [(C.pt (Pt.ptr 41 0 [] 8 0 0))])]⟩), (ce_xEagerMake_1 r3), (44, ⟨z0, [(false, [.tr true (T.int IntKind.i64 r3.2)])]⟩), (52, ⟨z0, [(false, [(C.pt (Pt.ptr 53 0 [] 8 0 0))])]⟩), (ce_xEagerMake_11 r5 r12 r13), (64, ⟨z0, [(false, [.tr true (T.int IntKind.i64 (f_ctLI r13))])]⟩), (72, ⟨z0, [(false, [(C.pt (Pt.ptr 73 0 [] 8 0 0))])]⟩), (ce_xEagerMake_12 r16), (76, ⟨z0, [(false, [.tr true (T.int IntKind.i64 r16.2)])]⟩), (ce_xEagerMake_2 r3), (ce_xEagerMake_3 r3), (ce_xEagerMake_4 r3), (ce_xEagerMake_8 r5), (ce_xEagerMake_9 r5), (ce_xEagerMake_10 r5), (ce_xEagerMake_13 r16), (ce_xEagerMake_14 r16), (ce_xEagerMake_15 r16)]
theorem sg_xEagerMake_18 (m : Ml) (up : Hd) (h : Hd) (b : Bool) (r3 : Ml × Int) (r5 : Ml × Int) (r12 : List Rm × Int) (r13 : List Int × Int) (n : Nat) (K : Ex → St → Res) : atP prog (tabS [(i_SzMl, e_SzMl), (i_ToMl, e_ToMl), (i_toHd, e_toHd), (i_sEmk, e_sEmk), (i_iEmk, e_iEmk), (i_EqMl, e_EqMl), (i_mkMl, e_mkMl), (i_hdMl, e_hdMl)]) kp_xEagerMake F_xEagerMake [1, 1, 1, 1, 1, 1, 1, 1, 1, 1, 1, 1, 1, 1, 1, 1, 1, 1, 0] n (sq_xEagerMake_18 m up h b r3 r5 r12 r13) K = (
 entK ok_ToMl ea_ToMl (f_ToMl) [(0, true,
    [C.tr false (T.int IntKind.i64 m.c.1), C.tr false (T.int IntKind.i64 m.c.2),
      C.tr false (T.int IntKind.i64 m.c.3), C.tr false (T.int IntKind.i64 m.c.4),
      C.tr false (T.int IntKind.i64 m.c.5), C.tr false (T.int IntKind.i64 m.c.6), C.tr false (eL 11 Rm.cs m.2),
      C.tr false (eL 1 rowI m.3)])] fun (r15 : Ml) =>
 gd ((0 + r15.2.length).ble r15.2.length) <|
 gd ((0 + r15.3.length).ble r15.3.length) <|
 entK ok_iEmk ea_iEmk (f_iEmk) [(0, true,
    [C.tr false (T.int IntKind.i64 r15.c.1), C.tr false (T.int IntKind.i64 r15.c.2),
      C.tr false (T.int IntKind.i64 r15.c.3), C.tr false (T.int IntKind.i64 r15.c.4),
      C.tr false (T.int IntKind.i64 r15.c.5), C.tr false (T.int IntKind.i64 r15.c.6),
      C.tr false (T.arr 11 r15.2.length (cutT 0 r15.2.length (eL 11 Rm.cs r15.2).fn)),
      C.tr false (T.arr 1 r15.3.length (cutT 0 r15.3.length (eL 1 rowI r15.3).fn))]),
  (0, true, [C.tr false (T.int IntKind.i64 up.1), C.tr false (T.int IntKind.i64 up.2)]),
  (0, true, [C.tr false (T.int IntKind.i64 h.1), C.tr false (T.int IntKind.i64 h.2)]),
  (0, false, [C.tr false (T.bool b)])] fun (r16 : Ml × Int) =>
 gd (r16.fst.2.length.ble r16.fst.2.length && true) <|
 gd (r16.fst.3.length.ble r16.fst.3.length && true) <|
 K .normal (sq_xEagerMake_19 m up h b r3 r5 r12 r13 r16)) := by kernel_rfl
def sq_xEagerMake_20 (m : Ml) (up : Hd) (h : Hd) (b : Bool) (r5 : Ml × Int) (r12 : List Rm × Int) (r13 : List Int × Int) : St := [(52, ⟨z0, [(false, [(C.pt (Pt.ptr 53 0 [] 8 0 0))])]⟩), (ce_xEagerMake_11 r5 r12 r13), (64, ⟨z0, [(false, [.tr true (T.int IntKind.i64 (f_ctLI r13))])]⟩), (ce_xEagerMake_8 r5), (ce_xEagerMake_9 r5), (ce_xEagerMake_10 r5), (432, ⟨z0, []⟩)]
theorem sg_xEagerMake_19 (m : Ml) (up : Hd) (h : Hd) (b : Bool) (r3 : Ml × Int) (r5 : Ml × Int) (r12 : List Rm × Int) (r13 : List Int × Int) (r16 : Ml × Int) (n : Nat) (K : Ex → St → Res) : atP prog (tabS [(i_SzMl, e_SzMl), (i_ToMl, e_ToMl), (i_toHd, e_toHd), (i_sEmk, e_sEmk), (i_iEmk, e_iEmk), (i_EqMl, e_EqMl), (i_mkMl, e_mkMl), (i_hdMl, e_hdMl)]) kp_xEagerMake F_xEagerMake [1, 1, 1, 1, 1, 1, 1, 1, 1, 1, 1, 1, 1, 1, 1, 1, 1, 1, 1, 0] n (sq_xEagerMake_19 m up h b r3 r5 r12 r13 r16) K = (
 gd ((0 + r16.fst.2.length).ble r16.fst.2.length) <|
 gd ((0 + r16.fst.3.length).ble r16.fst.3.length) <|
 gd ((0 + r3.fst.2.length).ble r3.fst.2.length) <|
 gd ((0 + r3.fst.3.length).ble r3.fst.3.length) <|
 entK ok_EqMl ea_EqMl (f_EqMl) [(0, true,
    [C.tr false (T.int IntKind.i64 r16.fst.c.1), C.tr false (T.int IntKind.i64 r16.fst.c.2),
      C.tr false (T.int IntKind.i64 r16.fst.c.3), C.tr false (T.int IntKind.i64 r16.fst.c.4),
      C.tr false (T.int IntKind.i64 r16.fst.c.5), C.tr false (T.int IntKind.i64 r16.fst.c.6),
      C.tr false (T.arr 11 r16.fst.2.length (cutT 0 r16.fst.2.length (eL 11 Rm.cs r16.fst.2).fn)),
      C.tr false (T.arr 1 r16.fst.3.length (cutT 0 r16.fst.3.length (eL 1 rowI r16.fst.3).fn))]),
  (0, true,
    [C.tr false (T.int IntKind.i64 r3.fst.c.1), C.tr false (T.int IntKind.i64 r3.fst.c.2),
      C.tr false (T.int IntKind.i64 r3.fst.c.3), C.tr false (T.int IntKind.i64 r3.fst.c.4),
      C.tr false (T.int IntKind.i64 r3.fst.c.5), C.tr false (T.int IntKind.i64 r3.fst.c.6),
      C.tr false (T.arr 11 r3.fst.2.length (cutT 0 r3.fst.2.length (eL 11 Rm.cs r3.fst.2).fn)),
      C.tr false (T.arr 1 r3.fst.3.length (cutT 0 r3.fst.3.length (eL 1 rowI r3.fst.3).fn))])] fun (r17 : Bool) =>
 bif !r17 then
  K .ret [(32, ⟨z0, [(false, [.tr true (T.bool false)])]⟩)]
 else
 bif r16.2 != r3.2 then
  K .ret [(32, ⟨z0, [(false, [.tr true (T.bool false)])]⟩)]
 else
 K .normal (sq_xEagerMake_20 m up h b r5 r12 r13)) := by kernel_rfl
def sq_xEagerMake_21 (m : Ml) (up : Hd) (h : Hd) (b : Bool) (r5 : Ml × Int) (r12 : List Rm × Int) (r13 : List Int × Int) : St := [(52, ⟨z0, [(false, [(C.pt (Pt.ptr 53 0 [] 8 0 0))])]⟩), (ce_xEagerMake_11 r5 r12 r13), (64, ⟨z0, [(false, [.tr true (T.int IntKind.i64 (f_ctLI r13))])]⟩), (68, ⟨z0, [(false, [.tr true (T.int IntKind.i64 1)])]⟩), (ce_xEagerMake_8 r5), (ce_xEagerMake_9 r5), (ce_xEagerMake_10 r5)]
theorem sg_xEagerMake_20 (m : Ml) (up : Hd) (h : Hd) (b : Bool) (r5 : Ml × Int) (r12 : List Rm × Int) (r13 : List Int × Int) (n : Nat) (K : Ex → St → Res) : atP prog (tabS [(i_SzMl, e_SzMl), (i_ToMl, e_ToMl), (i_toHd, e_toHd), (i_sEmk, e_sEmk), (i_iEmk, e_iEmk), (i_EqMl, e_EqMl), (i_mkMl, e_mkMl), (i_hdMl, e_hdMl)]) kp_xEagerMake F_xEagerMake [1, 1, 1, 1, 1, 1, 1, 1, 1, 1, 1, 1, 1, 1, 1, 1, 1, 1, 1, 1, 0] n (sq_xEagerMake_20 m up h b r5 r12 r13) K = (
 K .normal (sq_xEagerMake_21 m up h b r5 r12 r13)) := by kernel_rfl
def sq_xEagerMake_22 (m : Ml) (up : Hd) (h : Hd) (b : Bool) (r13 : List Int × Int) (r18 : Int) : St := [(64, ⟨z0, [(false, [.tr true (T.int IntKind.i64 (f_ctLI r13))])]⟩), (68, ⟨z0, [(false, [.tr true (T.int IntKind.i64 r18)])]⟩)]
theorem sg_xEagerMake_21 (m : Ml) (up : Hd) (h : Hd) (b : Bool) (r5 : Ml × Int) (r12 : List Rm × Int) (r13 : List Int × Int) (n : Nat) (K : Ex → St → Res) : atP prog (tabS [(i_SzMl, e_SzMl), (i_ToMl, e_ToMl), (i_toHd, e_toHd), (i_sEmk, e_sEmk), (i_iEmk, e_iEmk), (i_EqMl, e_EqMl), (i_mkMl, e_mkMl), (i_hdMl, e_hdMl)]) kp_xEagerMake F_xEagerMake [1, 1, 1, 1, 1, 1, 1, 1, 1, 1, 1, 1, 1, 1, 1, 1, 1, 1, 1, 1, 1, 0] n (sq_xEagerMake_21 m up h b r5 r12 r13) K = (
 gd ((0 + (f_mkRmS r12).length).ble (f_mkRmS r12).length) <|
 gd ((0 + (f_mkLI r13).length).ble (f_mkLI r13).length) <|
 entK ok_hdMl ea_hdMl (f_hdMl) [(0, true,
    [C.tr false (T.int IntKind.i64 r5.fst.c.1), C.tr false (T.int IntKind.i64 r5.fst.c.2),
      C.tr false (T.int IntKind.i64 r5.fst.c.3), C.tr false (T.int IntKind.i64 r5.fst.c.4),
      C.tr false (T.int IntKind.i64 r5.fst.c.5), C.tr false (T.int IntKind.i64 r5.fst.c.6),
      C.tr false
        (T.arr 11 (f_mkRmS r12).length (cutT 0 (f_mkRmS r12).length (atL Rm.cs (f_mkRmS r12)))),
      C.tr false
        (T.arr 1 (f_mkLI r13).length (cutT 0 (f_mkLI r13).length (atL rowI (f_mkLI r13))))]),
  (0, false, [C.tr false (T.int IntKind.i64 1)])] fun (r18 : Int) =>
 K .normal (sq_xEagerMake_22 m up h b r13 r18)) := by kernel_rfl
def sq_xEagerMake_23 (m : Ml) (up : Hd) (h : Hd) (b : Bool) (r13 : List Int × Int) (r18 : Int) : St := [(64, ⟨z0, [(false, [.tr true (T.int IntKind.i64 (f_ctLI r13))])]⟩), (68, ⟨z0, [(false, [.tr true (T.int IntKind.i64 r18)])]⟩), (452, ⟨z0, []⟩)]
theorem sg_xEagerMake_22 (m : Ml) (up : Hd) (h : Hd) (b : Bool) (r13 : List Int × Int) (r18 : Int) (n : Nat) (K : Ex → St → Res) : atP prog (tabS [(i_SzMl, e_SzMl), (i_ToMl, e_ToMl), (i_toHd, e_toHd), (i_sEmk, e_sEmk), (i_iEmk, e_iEmk), (i_EqMl, e_EqMl), (i_mkMl, e_mkMl), (i_hdMl, e_hdMl)]) kp_xEagerMake F_xEagerMake [1, 1, 1, 1, 1, 1, 1, 1, 1, 1, 1, 1, 1, 1, 1, 1, 1, 1, 1, 1, 1, 1, 0] n (sq_xEagerMake_22 m up h b r13 r18) K = (
 bif decide (r18 < 0) then
  K .ret [(32, ⟨z0, [(false, [.tr true (T.bool false)])]⟩)]
 else
 K .normal (sq_xEagerMake_23 m up h b r13 r18)) := by kernel_rfl
def sq_xEagerMake_24 (m : Ml) (up : Hd) (h : Hd) (b : Bool) : St := [(464, ⟨z0, []⟩)]
theorem sg_xEagerMake_23 (m : Ml) (up : Hd) (h : Hd) (b : Bool) (r13 : List Int × Int) (r18 : Int) (n : Nat) (K : Ex → St → Res) : atP prog (tabS [(i_SzMl, e_SzMl), (i_ToMl, e_ToMl), (i_toHd, e_toHd), (i_sEmk, e_sEmk), (i_iEmk, e_iEmk), (i_EqMl, e_EqMl), (i_mkMl, e_mkMl), (i_hdMl, e_hdMl)]) kp_xEagerMake F_xEagerMake [1, 1, 1, 1, 1, 1, 1, 1, 1, 1, 1, 1, 1, 1, 1, 1, 1, 1, 1, 1, 1, 1, 1, 0] n (sq_xEagerMake_23 m up h b r13 r18) K = (
 bif r18 != f_ctLI r13 then
  K .ret [(32, ⟨z0, [(false, [.tr true (T.bool false)])]⟩)]
 else
 K .normal (sq_xEagerMake_24 m up h b)) := by kernel_rfl
def sq_xEagerMake_25 (m : Ml) (up : Hd) (h : Hd) (b : Bool) : St := [(32, ⟨z0, [(false, [.tr true (T.bool true)])]⟩)]
theorem sg_xEagerMake_24 (m : Ml) (up : Hd) (h : Hd) (b : Bool) (n : Nat) (K : Ex → St → Res) : atP prog (tabS [(i_SzMl, e_SzMl), (i_ToMl, e_ToMl), (i_toHd, e_toHd), (i_sEmk, e_sEmk), (i_iEmk, e_iEmk), (i_EqMl, e_EqMl), (i_mkMl, e_mkMl), (i_hdMl, e_hdMl)]) kp_xEagerMake F_xEagerMake [1, 1, 1, 1, 1, 1, 1, 1, 1, 1, 1, 1, 1, 1, 1, 1, 1, 1, 1, 1, 1, 1, 1, 1, 0] n (sq_xEagerMake_24 m up h b) K = (
 K .normal (sq_xEagerMake_25 m up h b)) := by kernel_rfl
theorem sg_xEagerMake_25 (m : Ml) (up : Hd) (h : Hd) (b : Bool) (n : Nat) (K : Ex → St → Res) : atP prog (tabS [(i_SzMl, e_SzMl), (i_ToMl, e_ToMl), (i_toHd, e_toHd), (i_sEmk, e_sEmk), (i_iEmk, e_iEmk), (i_EqMl, e_EqMl), (i_mkMl, e_mkMl), (i_hdMl, e_hdMl)]) kp_xEagerMake F_xEagerMake [1, 1, 1, 1, 1, 1, 1, 1, 1, 1, 1, 1, 1, 1, 1, 1, 1, 1, 1, 1, 1, 1, 1, 1, 1] n (sq_xEagerMake_25 m up h b) K = (
 K .ret [(32, ⟨z0, [(false, [.tr true (T.bool true)])]⟩)]) := by kernel_rfl
theorem body_xEagerMake (m : Ml) (up : Hd) (h : Hd) (b : Bool) (hm : z_Ml m) (hup : z_Hd up) (hh : z_Hd h) (n : Nat) : body prog (tabS [(i_SzMl, e_SzMl), (i_ToMl, e_ToMl), (i_toHd, e_toHd), (i_sEmk, e_sEmk), (i_iEmk, e_iEmk), (i_EqMl, e_EqMl), (i_mkMl, e_mkMl), (i_hdMl, e_hdMl)]) kp_xEagerMake n F_xEagerMake [aR m.cs, aR up.cs, aR h.cs, aB b] = some (erB 4 true) := by
  have hzm := zm
  have hlm := lm
  have hbm := bm
  have rsx := And.intro @lt_d (And.intro @ge0_d (And.intro @Int.toNat_natCast (And.intro @blt_d (And.intro @ble_self (And.intro @beq_self (And.intro @decide_true (And.intro @cond_true.{1} (And.intro @Bool.and_self (And.intro @Bool.and_true (And.intro @Bool.true_and (And.intro @gd_true (And.intro @Nat.zero_add (And.intro @List.getD_cons_zero.{0} (And.intro @List.getD_cons_succ.{0} (And.intro @isI_int (And.intro @toI_int (And.intro @isB_bool (And.intro @toB_bool (And.intro @eL_T (And.intro @arr_ln (And.intro @arr_fn (And.intro @arr_wd (And.intro @arr_is (And.intro @arr_get (And.intro @cut_all (And.intro @bool_self (And.intro @bool_nself (And.intro @int_self (And.intro @int_nself (And.intro @Bool.not_true (And.intro @Bool.not_false (And.intro @cond_false.{1} (And.intro @nextP_n @nextP_r)))))))))))))))))))))))))))))))))
  rw [body_at _ _ _ _ _ _ (by kernel_rfl), show initA F_xEagerMake.ntmps 0 [aR m.cs, aR up.cs, aR h.cs, aB b] = sq_xEagerMake_0 m up h b from by kernel_rfl]
  have y0 : ok_SzMl (m, 1048576) := ⟨hm, by dsimp only; omega, by dsimp only; omega⟩
  by_cases e0 : (n_Ml m : Int) ≤ 1048576
  case neg =>
    rw [atP_seq (p := []) (q0 := [0]) (q1 := [1]) (by kernel_rfl) rfl rfl]
    rw [sg_xEagerMake_0]
    try simp (implicitDefEqProofs := false) only [rsx, Ml.cs, Hd.cs, n_SzMl e0, decide_eq_true (show (-1 : Int) < 0 by omega)]
    rw [atP_seq (p := [1]) (q0 := [1, 0]) (q1 := [1, 1]) (by kernel_rfl) rfl rfl]
    rw [sg_xEagerMake_1]
    try simp (implicitDefEqProofs := false) only [rsx, Ml.cs, Hd.cs, n_SzMl e0, decide_eq_true (show (-1 : Int) < 0 by omega)]
    rw [atP_seq (p := [1, 1]) (q0 := [1, 1, 0]) (q1 := [1, 1, 1]) (by kernel_rfl) rfl rfl]
    rw [sg_xEagerMake_2]
    try simp (implicitDefEqProofs := false) only [rsx, Ml.cs, Hd.cs, n_SzMl e0, decide_eq_true (show (-1 : Int) < 0 by omega)]
    rw [entK_of (dm_SzMl y0) (iv_SzMl y0)]
    try simp (implicitDefEqProofs := false) only [rsx, Ml.cs, Hd.cs, n_SzMl e0, decide_eq_true (show (-1 : Int) < 0 by omega)]
    rw [atP_seq (p := [1, 1, 1]) (q0 := [1, 1, 1, 0]) (q1 := [1, 1, 1, 1]) (by kernel_rfl) rfl rfl]
    rw [sg_xEagerMake_3]
    try simp (implicitDefEqProofs := false) only [rsx, Ml.cs, Hd.cs, n_SzMl e0, decide_eq_true (show (-1 : Int) < 0 by omega)]
    rfl
  have f0 : ¬ 1048576 - (n_Ml m : Int) < 0 := by omega
  obtain ⟨g0, q0⟩ := okn_Ml (l := m) (by omega)
  have c0 : ok_sEmk (m, up, h, b) := g0
  have c1 : ok_iEmk (m, up, h, b) := g0
  have c2 : ok_EqMl (m, m) := q0
  have hn0 : n_Ml m = n_RmS m.rooms + n_LI m.log := rfl
  have hb0 := cb_RmS m.rooms
  have hk0 : okh_RmS (m.rooms, 1) := ⟨q0.1, by dsimp only; omega, by dsimp only; omega⟩
  have hb1 := cb_LI m.log
  have hk1 : okh_LI (m.log, 1 + (cntL c1_RmS m.rooms : Int)) := ⟨q0.2, by dsimp only; omega, by dsimp only; omega⟩
  have hkm : ¬ 1 + (cntL c1_RmS m.rooms : Int) + (cntL c1_LI m.log : Int) < 0 := by omega
  have tq := emkM_ok (up := up) (h := h) (b := b) q0.1 q0.2 e0
  have tq2 := tq.2.1
  have tq3 := tq.2.2
  have rb0 := cb_RmS ((emkM m up h b).1).rooms
  have rb1 := cb_LI ((emkM m up h b).1).log
  have rn : n_LI ((emkM m up h b).1).log = n_LI m.log := by rw [tq3]
  have cq : ok_EqMl ((emkM m up h b).1, (emkM m up h b).1) := tq.1
  have mq0 : okq_RmS ((emkM m up h b).1).rooms := tq.1.1
  have mh0 : okh_RmS (((emkM m up h b).1).rooms, 1) := ⟨mq0, by dsimp only; omega, by dsimp only; omega⟩
  have mn1 : ¬ 1 + (cntL c1_RmS ((emkM m up h b).1).rooms : Int) < 0 := by omega
  have mq1 : okq_LI ((emkM m up h b).1).log := tq.1.2
  have mh1 : okh_LI (((emkM m up h b).1).log, 1 + (cntL c1_RmS ((emkM m up h b).1).rooms : Int)) := ⟨mq1, by dsimp only; omega, by dsimp only; omega⟩
  have mn2 : ¬ 1 + (cntL c1_RmS ((emkM m up h b).1).rooms : Int) + (cntL c1_LI ((emkM m up h b).1).log : Int) < 0 := by omega
  have mc0 : ok_hdMl ((Ml.mk (((emkM m up h b).1).c) (mk_RmS ((emkM m up h b).1).rooms (1)) (mk_LI ((emkM m up h b).1).log (1 + (cntL c1_RmS ((emkM m up h b).1).rooms : Int)))), 1) := ⟨⟨okqmk_RmS mq0, by dsimp only; omega, by dsimp only; simp only [ctmk_RmS, ctmk_LI]; omega⟩, ⟨okqmk_LI mq1, by dsimp only; omega, by dsimp only; simp only [ctmk_RmS, ctmk_LI]; omega⟩⟩
  have dm_hdMl := dm_hdMl mc0
  have iv_hdMl := iv_hdMl mc0
  have hv0 : f_hdMl ((Ml.mk (((emkM m up h b).1).c) (mk_RmS ((emkM m up h b).1).rooms (1)) (mk_LI ((emkM m up h b).1).log (1 + (cntL c1_RmS ((emkM m up h b).1).rooms : Int)))), 1) = 1 + (cntL c1_RmS ((emkM m up h b).1).rooms : Int) + (cntL c1_LI ((emkM m up h b).1).log : Int) := by simp [f_hdMl, ctmk_RmS, ctmk_LI, mkmk_RmS, mkmk_LI]
  dsimp only at dm_hdMl iv_hdMl
  have fx := And.intro (y_SzMl e0) (And.intro (decide_eq_false f0) (And.intro @d_ToMl (And.intro @d_sEmk (And.intro @d_iEmk (And.intro @d_EqMl (And.intro (decide_eq_false hkm) (And.intro (decide_eq_false mn1) (And.intro (decide_eq_false mn2) (And.intro @hv0 (And.intro @d_mkRmS (And.intro @d_ctRmS (And.intro @beq_mkRmS (And.intro @d_mkLI (And.intro @d_ctLI @beq_mkLI))))))))))))))
  rw [atP_seq (p := []) (q0 := [0]) (q1 := [1]) (by kernel_rfl) rfl rfl]
  rw [sg_xEagerMake_0]
  try simp (implicitDefEqProofs := false) only [rsx, Ml.cs, Hd.cs, fx]
  rw [atP_seq (p := [1]) (q0 := [1, 0]) (q1 := [1, 1]) (by kernel_rfl) rfl rfl]
  rw [sg_xEagerMake_1]
  try simp (implicitDefEqProofs := false) only [rsx, Ml.cs, Hd.cs, fx]
  rw [atP_seq (p := [1, 1]) (q0 := [1, 1, 0]) (q1 := [1, 1, 1]) (by kernel_rfl) rfl rfl]
  rw [sg_xEagerMake_2]
  try simp (implicitDefEqProofs := false) only [rsx, Ml.cs, Hd.cs, fx]
  rw [entK_of (dm_SzMl y0) (iv_SzMl y0)]
  try simp (implicitDefEqProofs := false) only [rsx, Ml.cs, Hd.cs, fx]
  rw [atP_seq (p := [1, 1, 1]) (q0 := [1, 1, 1, 0]) (q1 := [1, 1, 1, 1]) (by kernel_rfl) rfl rfl]
  rw [sg_xEagerMake_3]
  try simp (implicitDefEqProofs := false) only [rsx, Ml.cs, Hd.cs, fx]
  rw [atP_seq (p := [1, 1, 1, 1]) (q0 := [1, 1, 1, 1, 0]) (q1 := [1, 1, 1, 1, 1]) (by kernel_rfl) rfl rfl]
  rw [sg_xEagerMake_4]
  try simp (implicitDefEqProofs := false) only [rsx, Ml.cs, Hd.cs, fx]
  rw [entK_of (dm_ToMl g0) (iv_ToMl g0)]
  try simp (implicitDefEqProofs := false) only [rsx, Ml.cs, Hd.cs, fx]
  rw [entK_of (dm_sEmk c0) (iv_sEmk c0)]
  try simp (implicitDefEqProofs := false) only [rsx, Ml.cs, Hd.cs, fx]
  rw [atP_seq (p := [1, 1, 1, 1, 1]) (q0 := [1, 1, 1, 1, 1, 0]) (q1 := [1, 1, 1, 1, 1, 1]) (by kernel_rfl) rfl rfl]
  rw [sg_xEagerMake_5]
  try simp (implicitDefEqProofs := false) only [rsx, Ml.cs, Hd.cs, fx]
  rw [entK_of (dm_ToMl g0) (iv_ToMl g0)]
  try simp (implicitDefEqProofs := false) only [rsx, Ml.cs, Hd.cs, fx]
  rw [atP_seq (p := [1, 1, 1, 1, 1, 1]) (q0 := [1, 1, 1, 1, 1, 1, 0]) (q1 := [1, 1, 1, 1, 1, 1, 1]) (by kernel_rfl) rfl rfl]
  rw [sg_xEagerMake_6]
  try simp (implicitDefEqProofs := false) only [rsx, Ml.cs, Hd.cs, fx]
  rw [entK_of (dm_iEmk c1) (iv_iEmk c1)]
  try simp (implicitDefEqProofs := false) only [rsx, Ml.cs, Hd.cs, fx]
  rw [atP_seq (p := [1, 1, 1, 1, 1, 1, 1]) (q0 := [1, 1, 1, 1, 1, 1, 1, 0]) (q1 := [1, 1, 1, 1, 1, 1, 1, 1]) (by kernel_rfl) rfl rfl]
  rw [sg_xEagerMake_7]
  try simp (implicitDefEqProofs := false) only [rsx, Ml.cs, Hd.cs, fx]
  rw [entK_of (dm_EqMl cq) (iv_EqMl cq)]
  try simp (implicitDefEqProofs := false) only [rsx, Ml.cs, Hd.cs, fx]
  rw [atP_seq (p := [1, 1, 1, 1, 1, 1, 1, 1]) (q0 := [1, 1, 1, 1, 1, 1, 1, 1, 0]) (q1 := [1, 1, 1, 1, 1, 1, 1, 1, 1]) (by kernel_rfl) rfl rfl]
  rw [sg_xEagerMake_8]
  try simp (implicitDefEqProofs := false) only [rsx, Ml.cs, Hd.cs, fx]
  rw [entK_of (dm_ToMl g0) (iv_ToMl g0)]
  try simp (implicitDefEqProofs := false) only [rsx, Ml.cs, Hd.cs, fx]
  rw [entK_of (dm_EqMl c2) (iv_EqMl c2)]
  try simp (implicitDefEqProofs := false) only [rsx, Ml.cs, Hd.cs, fx]
  rw [atP_seq (p := [1, 1, 1, 1, 1, 1, 1, 1, 1]) (q0 := [1, 1, 1, 1, 1, 1, 1, 1, 1, 0]) (q1 := [1, 1, 1, 1, 1, 1, 1, 1, 1, 1]) (by kernel_rfl) rfl rfl]
  rw [sg_xEagerMake_9]
  try simp (implicitDefEqProofs := false) only [rsx, Ml.cs, Hd.cs, fx]
  rw [atP_seq (p := [1, 1, 1, 1, 1, 1, 1, 1, 1, 1]) (q0 := [1, 1, 1, 1, 1, 1, 1, 1, 1, 1, 0]) (q1 := [1, 1, 1, 1, 1, 1, 1, 1, 1, 1, 1]) (by kernel_rfl) rfl rfl]
  rw [sg_xEagerMake_10]
  try simp (implicitDefEqProofs := false) only [rsx, Ml.cs, Hd.cs, fx]
  rw [entK_of (dm_mkRmS hk0) (iv_mkRmS hk0)]
  try simp (implicitDefEqProofs := false) only [rsx, Ml.cs, Hd.cs, fx]
  rw [entK_of (dm_mkLI hk1) (iv_mkLI hk1)]
  try simp (implicitDefEqProofs := false) only [rsx, Ml.cs, Hd.cs, fx]
  rw [atP_seq (p := [1, 1, 1, 1, 1, 1, 1, 1, 1, 1, 1]) (q0 := [1, 1, 1, 1, 1, 1, 1, 1, 1, 1, 1, 0]) (q1 := [1, 1, 1, 1, 1, 1, 1, 1, 1, 1, 1, 1]) (by kernel_rfl) rfl rfl]
  rw [sg_xEagerMake_11]
  try simp (implicitDefEqProofs := false) only [rsx, Ml.cs, Hd.cs, fx]
  rw [entK_of (dm_EqMl cq) (iv_EqMl cq)]
  try simp (implicitDefEqProofs := false) only [rsx, Ml.cs, Hd.cs, fx]
  rw [atP_seq (p := [1, 1, 1, 1, 1, 1, 1, 1, 1, 1, 1, 1]) (q0 := [1, 1, 1, 1, 1, 1, 1, 1, 1, 1, 1, 1, 0]) (q1 := [1, 1, 1, 1, 1, 1, 1, 1, 1, 1, 1, 1, 1]) (by kernel_rfl) rfl rfl]
  rw [sg_xEagerMake_12]
  try simp (implicitDefEqProofs := false) only [rsx, Ml.cs, Hd.cs, fx]
  rw [atP_seq (p := [1, 1, 1, 1, 1, 1, 1, 1, 1, 1, 1, 1, 1]) (q0 := [1, 1, 1, 1, 1, 1, 1, 1, 1, 1, 1, 1, 1, 0]) (q1 := [1, 1, 1, 1, 1, 1, 1, 1, 1, 1, 1, 1, 1, 1]) (by kernel_rfl) rfl rfl]
  rw [sg_xEagerMake_13]
  try simp (implicitDefEqProofs := false) only [rsx, Ml.cs, Hd.cs, fx]
  rw [entK_of (dm_mkRmS mh0) (iv_mkRmS mh0)]
  try simp (implicitDefEqProofs := false) only [rsx, Ml.cs, Hd.cs, fx]
  rw [entK_of (dm_mkLI mh1) (iv_mkLI mh1)]
  try simp (implicitDefEqProofs := false) only [rsx, Ml.cs, Hd.cs, fx]
  rw [atP_seq (p := [1, 1, 1, 1, 1, 1, 1, 1, 1, 1, 1, 1, 1, 1]) (q0 := [1, 1, 1, 1, 1, 1, 1, 1, 1, 1, 1, 1, 1, 1, 0]) (q1 := [1, 1, 1, 1, 1, 1, 1, 1, 1, 1, 1, 1, 1, 1, 1]) (by kernel_rfl) rfl rfl]
  rw [sg_xEagerMake_14]
  try simp (implicitDefEqProofs := false) only [rsx, Ml.cs, Hd.cs, fx]
  rw [atP_seq (p := [1, 1, 1, 1, 1, 1, 1, 1, 1, 1, 1, 1, 1, 1, 1]) (q0 := [1, 1, 1, 1, 1, 1, 1, 1, 1, 1, 1, 1, 1, 1, 1, 0]) (q1 := [1, 1, 1, 1, 1, 1, 1, 1, 1, 1, 1, 1, 1, 1, 1, 1]) (by kernel_rfl) rfl rfl]
  rw [sg_xEagerMake_15]
  try simp (implicitDefEqProofs := false) only [rsx, Ml.cs, Hd.cs, fx]
  rw [entK_of dm_hdMl iv_hdMl]
  try simp (implicitDefEqProofs := false) only [rsx, Ml.cs, Hd.cs, fx]
  rw [atP_seq (p := [1, 1, 1, 1, 1, 1, 1, 1, 1, 1, 1, 1, 1, 1, 1, 1]) (q0 := [1, 1, 1, 1, 1, 1, 1, 1, 1, 1, 1, 1, 1, 1, 1, 1, 0]) (q1 := [1, 1, 1, 1, 1, 1, 1, 1, 1, 1, 1, 1, 1, 1, 1, 1, 1]) (by kernel_rfl) rfl rfl]
  rw [sg_xEagerMake_16]
  try simp (implicitDefEqProofs := false) only [rsx, Ml.cs, Hd.cs, fx]
  rw [atP_seq (p := [1, 1, 1, 1, 1, 1, 1, 1, 1, 1, 1, 1, 1, 1, 1, 1, 1]) (q0 := [1, 1, 1, 1, 1, 1, 1, 1, 1, 1, 1, 1, 1, 1, 1, 1, 1, 0]) (q1 := [1, 1, 1, 1, 1, 1, 1, 1, 1, 1, 1, 1, 1, 1, 1, 1, 1, 1]) (by kernel_rfl) rfl rfl]
  rw [sg_xEagerMake_17]
  try simp (implicitDefEqProofs := false) only [rsx, Ml.cs, Hd.cs, fx]
  rw [atP_seq (p := [1, 1, 1, 1, 1, 1, 1, 1, 1, 1, 1, 1, 1, 1, 1, 1, 1, 1]) (q0 := [1, 1, 1, 1, 1, 1, 1, 1, 1, 1, 1, 1, 1, 1, 1, 1, 1, 1, 0]) (q1 := [1, 1, 1, 1, 1, 1, 1, 1, 1, 1, 1, 1, 1, 1, 1, 1, 1, 1, 1]) (by kernel_rfl) rfl rfl]
  rw [sg_xEagerMake_18]
  try simp (implicitDefEqProofs := false) only [rsx, Ml.cs, Hd.cs, fx]
  rw [entK_of (dm_ToMl g0) (iv_ToMl g0)]
  try simp (implicitDefEqProofs := false) only [rsx, Ml.cs, Hd.cs, fx]
  rw [entK_of (dm_iEmk c1) (iv_iEmk c1)]
  try simp (implicitDefEqProofs := false) only [rsx, Ml.cs, Hd.cs, fx]
  rw [atP_seq (p := [1, 1, 1, 1, 1, 1, 1, 1, 1, 1, 1, 1, 1, 1, 1, 1, 1, 1, 1]) (q0 := [1, 1, 1, 1, 1, 1, 1, 1, 1, 1, 1, 1, 1, 1, 1, 1, 1, 1, 1, 0]) (q1 := [1, 1, 1, 1, 1, 1, 1, 1, 1, 1, 1, 1, 1, 1, 1, 1, 1, 1, 1, 1]) (by kernel_rfl) rfl rfl]
  rw [sg_xEagerMake_19]
  try simp (implicitDefEqProofs := false) only [rsx, Ml.cs, Hd.cs, fx]
  rw [entK_of (dm_EqMl cq) (iv_EqMl cq)]
  try simp (implicitDefEqProofs := false) only [rsx, Ml.cs, Hd.cs, fx]
  rw [atP_seq (p := [1, 1, 1, 1, 1, 1, 1, 1, 1, 1, 1, 1, 1, 1, 1, 1, 1, 1, 1, 1]) (q0 := [1, 1, 1, 1, 1, 1, 1, 1, 1, 1, 1, 1, 1, 1, 1, 1, 1, 1, 1, 1, 0]) (q1 := [1, 1, 1, 1, 1, 1, 1, 1, 1, 1, 1, 1, 1, 1, 1, 1, 1, 1, 1, 1, 1]) (by kernel_rfl) rfl rfl]
  rw [sg_xEagerMake_20]
  try simp (implicitDefEqProofs := false) only [rsx, Ml.cs, Hd.cs, fx]
  rw [atP_seq (p := [1, 1, 1, 1, 1, 1, 1, 1, 1, 1, 1, 1, 1, 1, 1, 1, 1, 1, 1, 1, 1]) (q0 := [1, 1, 1, 1, 1, 1, 1, 1, 1, 1, 1, 1, 1, 1, 1, 1, 1, 1, 1, 1, 1, 0]) (q1 := [1, 1, 1, 1, 1, 1, 1, 1, 1, 1, 1, 1, 1, 1, 1, 1, 1, 1, 1, 1, 1, 1]) (by kernel_rfl) rfl rfl]
  rw [sg_xEagerMake_21]
  try simp (implicitDefEqProofs := false) only [rsx, Ml.cs, Hd.cs, fx]
  rw [entK_of dm_hdMl iv_hdMl]
  try simp (implicitDefEqProofs := false) only [rsx, Ml.cs, Hd.cs, fx]
  rw [atP_seq (p := [1, 1, 1, 1, 1, 1, 1, 1, 1, 1, 1, 1, 1, 1, 1, 1, 1, 1, 1, 1, 1, 1]) (q0 := [1, 1, 1, 1, 1, 1, 1, 1, 1, 1, 1, 1, 1, 1, 1, 1, 1, 1, 1, 1, 1, 1, 0]) (q1 := [1, 1, 1, 1, 1, 1, 1, 1, 1, 1, 1, 1, 1, 1, 1, 1, 1, 1, 1, 1, 1, 1, 1]) (by kernel_rfl) rfl rfl]
  rw [sg_xEagerMake_22]
  try simp (implicitDefEqProofs := false) only [rsx, Ml.cs, Hd.cs, fx]
  rw [atP_seq (p := [1, 1, 1, 1, 1, 1, 1, 1, 1, 1, 1, 1, 1, 1, 1, 1, 1, 1, 1, 1, 1, 1, 1]) (q0 := [1, 1, 1, 1, 1, 1, 1, 1, 1, 1, 1, 1, 1, 1, 1, 1, 1, 1, 1, 1, 1, 1, 1, 0]) (q1 := [1, 1, 1, 1, 1, 1, 1, 1, 1, 1, 1, 1, 1, 1, 1, 1, 1, 1, 1, 1, 1, 1, 1, 1]) (by kernel_rfl) rfl rfl]
  rw [sg_xEagerMake_23]
  try simp (implicitDefEqProofs := false) only [rsx, Ml.cs, Hd.cs, fx]
  rw [atP_seq (p := [1, 1, 1, 1, 1, 1, 1, 1, 1, 1, 1, 1, 1, 1, 1, 1, 1, 1, 1, 1, 1, 1, 1, 1]) (q0 := [1, 1, 1, 1, 1, 1, 1, 1, 1, 1, 1, 1, 1, 1, 1, 1, 1, 1, 1, 1, 1, 1, 1, 1, 0]) (q1 := [1, 1, 1, 1, 1, 1, 1, 1, 1, 1, 1, 1, 1, 1, 1, 1, 1, 1, 1, 1, 1, 1, 1, 1, 1]) (by kernel_rfl) rfl rfl]
  rw [sg_xEagerMake_24]
  try simp (implicitDefEqProofs := false) only [rsx, Ml.cs, Hd.cs, fx]
  rw [sg_xEagerMake_25]
  try simp (implicitDefEqProofs := false) only [rsx, Ml.cs, Hd.cs, fx]
  rfl
theorem sd_xEagerMake (m : Ml) (up : Hd) (h : Hd) (b : Bool) (hm : z_Ml m) (hup : z_Hd up) (hh : z_Hd h) : Sound prog i_xEagerMake [aR m.cs, aR up.cs, aR h.cs, aB b] (erB 4 true).1 (erB 4 true).2 :=
  body_sound (φ := (tabS [(i_SzMl, e_SzMl), (i_ToMl, e_ToMl), (i_toHd, e_toHd), (i_sEmk, e_sEmk), (i_iEmk, e_iEmk), (i_EqMl, e_EqMl), (i_mkMl, e_mkMl), (i_hdMl, e_hdMl)])) (tabS_cons s_SzMl (tabS_cons s_ToMl (tabS_cons s_toHd (tabS_cons s_sEmk (tabS_cons s_iEmk (tabS_cons s_EqMl (tabS_cons s_mkMl (tabS_cons s_hdMl tabS_nil)))))))) mixed (kp := kp_xEagerMake) (n := 0) func6 (c := bodyOf F_xEagerMake) (by kernel_rfl) (body_xEagerMake m up h b hm hup hh 0) (name_ok (by kernel_rfl))
end Go.Mach.F
end
