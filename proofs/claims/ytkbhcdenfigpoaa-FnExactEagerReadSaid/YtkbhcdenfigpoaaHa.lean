/- Models: the laws' copies and comparisons. Conditions: none. -/
import Derived.Test.YtkbhcdenfigpoaaGa
import Derived.Test.YtkbhcdenfigpoaaFc
set_option linter.all false
namespace Go.Mach.F
open Go Go.Mach Go.Proofs.Try
--=set_option maxRecDepth 100000
theorem Ml.cs_inj (x y : Ml) (h : ∀ k, x.cs.getD k .hole = y.cs.getD k .hole) : x = y := by
  have h0 := h 0; have h1 := h 1; have h2 := h 2; have h3 := h 3; have h4 := h 4; have h5 := h 5; have h6 := h 6; have h7 := h 7
  rcases x with ⟨⟨x0, x1, x2, x3, x4, x5⟩, x6, x7⟩
  rcases y with ⟨⟨y0, y1, y2, y3, y4, y5⟩, y6, y7⟩
  simp only [Ml.cs, List.getD_cons_zero, List.getD_cons_succ, T.int.injEq, T.bool.injEq, true_and] at h0 h1 h2 h3 h4 h5 h6 h7
  replace h6 := eL_inj Rm.cs_inj h6
  replace h7 := eI_inj h7
  subst h0; subst h1; subst h2; subst h3; subst h4; subst h5; subst h6; subst h7
  rfl
theorem Rm.cs_ext {x y : Rm} (h : x.cs = y.cs) : x = y := Rm.cs_inj x y fun k => by rw [h]
theorem Ml.cs_ext {x y : Ml} (h : x.cs = y.cs) : x = y := Ml.cs_inj x y fun k => by rw [h]
def i_toMl : Nat := 22
noncomputable abbrev F_toMl : Func := f22
def kp_toMl : List (Nat × List Nat) := [(0, [4, 5, 8, 9, 12, 13, 64]), (1, [4, 5, 8, 9, 12, 13, 64]), (2, [4, 5, 8, 9, 12, 13, 64]), (3, [4, 5, 8, 9, 12, 13, 64]), (4, [8, 9, 12, 13, 64]), (5, [8, 9, 12, 13, 64])]
noncomputable def e_toMl : Ent := inl [] prog (tabS [(i_toCf, e_toCf), (i_toRmS, e_toRmS), (i_toLI, e_toLI)]) kp_toMl 0 F_toMl
theorem s_toMl : EntOk prog i_toMl e_toMl := inl_ok (tabS_cons s_toCf (tabS_cons s_toRmS (tabS_cons s_toLI tabS_nil))) mixed (c := bodyOf F_toMl) func22 (by kernel_rfl) (name_ok (by kernel_rfl))
def i_eqMl : Nat := 26
noncomputable abbrev F_eqMl : Func := f26
def kp_eqMl : List (Nat × List Nat) := [(0, [8, 9, 12, 13]), (1, [8, 9, 12, 13, 40]), (2, [16]), (3, [8, 9, 12, 13, 64]), (4, [16]), (5, [88]), (6, [16]), (7, [16])]
noncomputable def e_eqMl : Ent := inl [] prog (tabS [(i_eqCf, e_eqCf), (i_eqRmS, e_eqRmS), (i_eqLI, e_eqLI)]) kp_eqMl 0 F_eqMl
theorem s_eqMl : EntOk prog i_eqMl e_eqMl := inl_ok (tabS_cons s_eqCf (tabS_cons s_eqRmS (tabS_cons s_eqLI tabS_nil))) mixed (c := bodyOf F_eqMl) func26 (by kernel_rfl) (name_ok (by kernel_rfl))
def i_szMl : Nat := 20
noncomputable abbrev F_szMl : Func := f20
def kp_szMl : List (Nat × List Nat) := [(0, [4, 8, 9]), (1, [4, 8, 9]), (2, [4, 8, 9, 40]), (3, [16]), (4, [4]), (5, [4, 64]), (6, [16]), (7, [16])]
noncomputable def e_szMl : Ent := inl [] prog (tabS [(i_szRmS, e_szRmS), (i_szLI, e_szLI)]) kp_szMl 0 F_szMl
theorem s_szMl : EntOk prog i_szMl e_szMl := inl_ok (tabS_cons s_szRmS (tabS_cons s_szLI tabS_nil)) mixed (c := bodyOf F_szMl) func20 (by kernel_rfl) (name_ok (by kernel_rfl))
abbrev shSf : List Sh := [.arr [.int .u8]]
def z_Sf (x : Sf) : Prop := okz_LB x.b
theorem sh_Sf {ts : List T} (hh : ShTs ts shSf) : ∃ x : Sf, ts = x.cs ∧ z_Sf x := by
  obtain ⟨t0, ts, rfl, h0, hh⟩ := shs_cons hh
  obtain rfl := shs_nil hh
  obtain ⟨x0, rfl, z0⟩ := sh_LB h0
  exact ⟨⟨x0⟩, rfl, z0⟩
theorem sh_SfS {t : T} (h : ShT t (.arr shSf)) : ∃ l : List Sf, t = eL 1 Sf.cs l ∧ l.length ≤ ZM ∧ ∀ x ∈ l, z_Sf x := sh_list z_Sf (fun _ => rfl) (fun _ hts => sh_Sf hts) h
abbrev shRm : List Sh := [.int .i64, .int .i64, .int .i64, .int .i64, .arr shHd, .int .i64, .int .i64, .bool, .int .i64, .arr shSf, .arr [.int .i64]]
def z_Rm (x : Rm) : Prop := okz_HdS x.kids ∧ okz_SfS x.things ∧ okz_LI x.tags
theorem sh_Rm {ts : List T} (hh : ShTs ts shRm) : ∃ x : Rm, ts = x.cs ∧ z_Rm x := by
  obtain ⟨t0, ts, rfl, h0, hh⟩ := shs_cons hh
  obtain ⟨t1, ts, rfl, h1, hh⟩ := shs_cons hh
  obtain ⟨t2, ts, rfl, h2, hh⟩ := shs_cons hh
  obtain ⟨t3, ts, rfl, h3, hh⟩ := shs_cons hh
  obtain ⟨t4, ts, rfl, h4, hh⟩ := shs_cons hh
  obtain ⟨t5, ts, rfl, h5, hh⟩ := shs_cons hh
  obtain ⟨t6, ts, rfl, h6, hh⟩ := shs_cons hh
  obtain ⟨t7, ts, rfl, h7, hh⟩ := shs_cons hh
  obtain ⟨t8, ts, rfl, h8, hh⟩ := shs_cons hh
  obtain ⟨t9, ts, rfl, h9, hh⟩ := shs_cons hh
  obtain ⟨t10, ts, rfl, h10, hh⟩ := shs_cons hh
  obtain rfl := shs_nil hh
  obtain ⟨x0, rfl, _⟩ := sh_int h0
  obtain ⟨x1, rfl, _⟩ := sh_int h1
  obtain ⟨x2, rfl, _⟩ := sh_int h2
  obtain ⟨x3, rfl, _⟩ := sh_int h3
  obtain ⟨x4, rfl, z4, _⟩ := sh_HdS h4
  obtain ⟨x5, rfl, _⟩ := sh_int h5
  obtain ⟨x6, rfl, _⟩ := sh_int h6
  obtain ⟨x7, rfl⟩ := sh_bool h7
  obtain ⟨x8, rfl, _⟩ := sh_int h8
  obtain ⟨x9, rfl, z9, y9⟩ := sh_SfS h9
  obtain ⟨x10, rfl, z10⟩ := sh_LI h10
  exact ⟨⟨⟨x0, x1⟩, ⟨x2, x3⟩, x4, x5, x6, x7, x8, x9, x10⟩, rfl, ⟨z4, ⟨z9, y9⟩, z10⟩⟩
theorem sh_RmS {t : T} (h : ShT t (.arr shRm)) : ∃ l : List Rm, t = eL 11 Rm.cs l ∧ l.length ≤ ZM ∧ ∀ x ∈ l, z_Rm x := sh_list z_Rm (fun _ => rfl) (fun _ hts => sh_Rm hts) h
abbrev shMl : List Sh := [.int .i64, .int .i64, .int .i64, .int .i64, .int .i64, .int .i64, .arr shRm, .arr [.int .i64]]
def z_Ml (x : Ml) : Prop := okz_RmS x.rooms ∧ okz_LI x.log
theorem sh_Ml {ts : List T} (hh : ShTs ts shMl) : ∃ x : Ml, ts = x.cs ∧ z_Ml x := by
  obtain ⟨t0, ts, rfl, h0, hh⟩ := shs_cons hh
  obtain ⟨t1, ts, rfl, h1, hh⟩ := shs_cons hh
  obtain ⟨t2, ts, rfl, h2, hh⟩ := shs_cons hh
  obtain ⟨t3, ts, rfl, h3, hh⟩ := shs_cons hh
  obtain ⟨t4, ts, rfl, h4, hh⟩ := shs_cons hh
  obtain ⟨t5, ts, rfl, h5, hh⟩ := shs_cons hh
  obtain ⟨t6, ts, rfl, h6, hh⟩ := shs_cons hh
  obtain ⟨t7, ts, rfl, h7, hh⟩ := shs_cons hh
  obtain rfl := shs_nil hh
  obtain ⟨x0, rfl, _⟩ := sh_int h0
  obtain ⟨x1, rfl, _⟩ := sh_int h1
  obtain ⟨x2, rfl, _⟩ := sh_int h2
  obtain ⟨x3, rfl, _⟩ := sh_int h3
  obtain ⟨x4, rfl, _⟩ := sh_int h4
  obtain ⟨x5, rfl, _⟩ := sh_int h5
  obtain ⟨x6, rfl, z6, y6⟩ := sh_RmS h6
  obtain ⟨x7, rfl, z7⟩ := sh_LI h7
  exact ⟨⟨⟨x0, x1, x2, x3, x4, x5⟩, x6, x7⟩, rfl, ⟨⟨z6, y6⟩, z7⟩⟩
def ok_EqMl (x : Ml × Ml) : Prop := okq_RmS x.1.rooms ∧ okq_LI x.1.log
def ea_EqMl (x : Ml × Ml) : List Arg := [aR x.1.cs, aR x.2.cs]
def f_EqMl (x : Ml × Ml) : Bool := decide (x.1 = x.2)
noncomputable def e_EqMl : Ent := ent [] ok_EqMl ea_EqMl (erB 2) f_EqMl
theorem ea_EqMl_inj (x y : Ml × Ml) (h : ea_EqMl x = ea_EqMl y) : x = y := by
  obtain ⟨l1, r1⟩ := x
  obtain ⟨l2, r2⟩ := y
  simp only [ea_EqMl, List.cons.injEq, and_true, true_and] at h
  obtain ⟨e0, e1⟩ := h
  obtain rfl := Ml.cs_ext (aR_inj e0)
  obtain rfl := Ml.cs_ext (aR_inj e1)
  rfl
theorem dm_EqMl {l : Ml} {r : Ml} (h : ok_EqMl (l, r)) : dom ok_EqMl ea_EqMl [(0, true, [C.tr false (T.int IntKind.i64 l.c.chunks), C.tr false (T.int IntKind.i64 l.c.size), C.tr false (T.int IntKind.i64 l.c.slots), C.tr false (T.int IntKind.i64 l.c.tax), C.tr false (T.int IntKind.i64 l.c.slice), C.tr false (T.int IntKind.i64 l.c.gens), C.tr false (T.arr 11 l.rooms.length (atL Rm.cs l.rooms)), C.tr false (T.arr 1 l.log.length (atL rowI l.log))]), (0, true, [C.tr false (T.int IntKind.i64 r.c.chunks), C.tr false (T.int IntKind.i64 r.c.size), C.tr false (T.int IntKind.i64 r.c.slots), C.tr false (T.int IntKind.i64 r.c.tax), C.tr false (T.int IntKind.i64 r.c.slice), C.tr false (T.int IntKind.i64 r.c.gens), C.tr false (T.arr 11 r.rooms.length (atL Rm.cs r.rooms)), C.tr false (T.arr 1 r.log.length (atL rowI r.log))])] = true := dom_ea (ea := ea_EqMl) (x := (l, r)) h
theorem iv_EqMl {l : Ml} {r : Ml} (h : ok_EqMl (l, r)) : inv ok_EqMl ea_EqMl [(0, true, [C.tr false (T.int IntKind.i64 l.c.chunks), C.tr false (T.int IntKind.i64 l.c.size), C.tr false (T.int IntKind.i64 l.c.slots), C.tr false (T.int IntKind.i64 l.c.tax), C.tr false (T.int IntKind.i64 l.c.slice), C.tr false (T.int IntKind.i64 l.c.gens), C.tr false (T.arr 11 l.rooms.length (atL Rm.cs l.rooms)), C.tr false (T.arr 1 l.log.length (atL rowI l.log))]), (0, true, [C.tr false (T.int IntKind.i64 r.c.chunks), C.tr false (T.int IntKind.i64 r.c.size), C.tr false (T.int IntKind.i64 r.c.slots), C.tr false (T.int IntKind.i64 r.c.tax), C.tr false (T.int IntKind.i64 r.c.slice), C.tr false (T.int IntKind.i64 r.c.gens), C.tr false (T.arr 11 r.rooms.length (atL Rm.cs r.rooms)), C.tr false (T.arr 1 r.log.length (atL rowI r.log))])] = (l, r) := inv_ea ea_EqMl_inj (x := (l, r)) h
theorem d_EqMl (l : Ml) (r : Ml) : f_EqMl (l, r) = decide (l = r) := rfl
def i_EqMl : Nat := 26
noncomputable abbrev F_EqMl : Func := f26
def kp_EqMl : List (Nat × List Nat) := [(0, [8, 9, 12, 13]), (1, [8, 9, 12, 13, 40]), (2, [16]), (3, [8, 9, 12, 13, 64]), (4, [16]), (5, [88]), (6, [16]), (7, [16])]
def ts_EqMl : List Nat := [0, 0]
theorem pre_EqMl (l : Ml) (r : Ml) (n : Nat) : body prog (tabS [(i_eqCf, e_eqCf), (i_eqRmS, e_eqRmS), (i_eqLI, e_eqLI)]) kp_EqMl n F_EqMl [aR l.cs, aR r.cs] = (
 bif l.c.1 != r.c.1 then
  some ([(false, [.tr true (T.bool false)])], [(false, []), (false, [])])
 else
 bif l.c.2 != r.c.2 then
  some ([(false, [.tr true (T.bool false)])], [(false, []), (false, [])])
 else
 bif l.c.3 != r.c.3 then
  some ([(false, [.tr true (T.bool false)])], [(false, []), (false, [])])
 else
 bif l.c.4 != r.c.4 then
  some ([(false, [.tr true (T.bool false)])], [(false, []), (false, [])])
 else
 bif l.c.5 != r.c.5 then
  some ([(false, [.tr true (T.bool false)])], [(false, []), (false, [])])
 else
 bif l.c.6 != r.c.6 then
  some ([(false, [.tr true (T.bool false)])], [(false, []), (false, [])])
 else
 gd (dom ok2_RmS ea2_RmS [(0, false, [C.tr false (eL 11 Rm.cs l.2)]), (0, false, [C.tr false (eL 11 Rm.cs r.2)])]) <|
 bif !f_eqRmS
    (inv ok2_RmS ea2_RmS [(0, false, [C.tr false (eL 11 Rm.cs l.2)]), (0, false, [C.tr false (eL 11 Rm.cs r.2)])]) then
  some ([(false, [.tr true (T.bool false)])], [(false, []), (false, [])])
 else
 gd (dom ok2_LI ea2_LI [(0, false, [C.tr false (eL 1 rowI l.3)]), (0, false, [C.tr false (eL 1 rowI r.3)])]) <|
 bif !f_eqLI (inv ok2_LI ea2_LI [(0, false, [C.tr false (eL 1 rowI l.3)]), (0, false, [C.tr false (eL 1 rowI r.3)])]) then
  some ([(false, [.tr true (T.bool false)])], [(false, []), (false, [])])
 else
 some ([(false, [.tr true (T.bool true)])], [(false, []), (false, [])])) := by kernel_rfl
theorem body_EqMl (l : Ml) (r : Ml) (n : Nat) (h : ok_EqMl (l, r)) : body prog (tabS [(i_eqCf, e_eqCf), (i_eqRmS, e_eqRmS), (i_eqLI, e_eqLI)]) kp_EqMl n F_EqMl (ea_EqMl (l, r)) = some (erB 2 (f_EqMl (l, r))) := by
  have h0 : okq_RmS l.rooms := h.1
  have h1 : okq_LI l.log := h.2
  unfold ea_EqMl f_EqMl
  try dsimp only
  rw [pre_EqMl]
  simp only [lt_d, ge0_d, Int.toNat_natCast, blt_d, ble_self, beq_self, decide_true, cond_true, Bool.and_self, Bool.and_true, Bool.true_and, gd_true, Nat.zero_add, List.getD_cons_zero, List.getD_cons_succ, isI_int, toI_int, isB_bool, toB_bool, eL_T, arr_ln, arr_fn, arr_wd, arr_is, arr_get, Ml.cs, int_ne, bool_ne, bool_eq, dm_eqRmS h0, iv_eqRmS h0, d_eqRmS, dm_eqLI h1, iv_eqLI h1, d_eqLI, chain]
  have hxy : (l.c.chunks = r.c.chunks ∧ l.c.size = r.c.size ∧ l.c.slots = r.c.slots ∧ l.c.tax = r.c.tax ∧ l.c.slice = r.c.slice ∧ l.c.gens = r.c.gens ∧ l.rooms = r.rooms ∧ l.log = r.log) ↔ l = r := by
    rcases l with ⟨⟨x0, x1, x2, x3, x4, x5⟩, x6, x7⟩
    rcases r with ⟨⟨y0, y1, y2, y3, y4, y5⟩, y6, y7⟩
    simp [and_assoc]
  simp only [hxy]
  by_cases e : l = r
  · simp only [e, decide_true, Bool.not_true, cond_false]
    rfl
  · simp only [e, decide_false, Bool.not_false, cond_true]
    rfl
theorem s_EqMl : EntOk prog i_EqMl e_EqMl := ent_ok ea_EqMl_inj fun x hx =>
  body_sound (φ := (tabS [(i_eqCf, e_eqCf), (i_eqRmS, e_eqRmS), (i_eqLI, e_eqLI)])) (tabS_cons s_eqCf (tabS_cons s_eqRmS (tabS_cons s_eqLI tabS_nil))) mixed (kp := kp_EqMl) (n := 0) func26 (c := bodyOf F_EqMl) (by kernel_rfl) (body_EqMl x.1 x.2 (0) hx) (name_ok (by kernel_rfl))
end Go.Mach.F