/- Models: marks; comparisons of rooms. Conditions: none. -/
import Derived.Test.YtkbhcdenfigpoaaMr
import Derived.Test.YtkbhcdenfigpoaaRx
set_option linter.all false
namespace Go.Mach.F
open Go Go.Mach Go.Proofs.Try
--=set_option maxRecDepth 100000
def i_mkRm : Nat := 36
noncomputable abbrev F_mkRm : Func := f36
def kp_mkRm : List (Nat × List Nat) := [(0, [4, 8, 9, 2]), (1, [4, 8, 9, 2]), (2, [4, 8, 9, 2]), (3, [4, 2]), (4, [16, 2])]
noncomputable def e_mkRm : Ent := inl [1, 0] prog (tabS [(i_mkHdS, e_mkHdS), (i_mkSfS, e_mkSfS), (i_mkLI, e_mkLI)]) kp_mkRm 0 F_mkRm
theorem s_mkRm : EntOk prog i_mkRm e_mkRm := inl_ok (tabS_cons s_mkHdS (tabS_cons s_mkSfS (tabS_cons s_mkLI tabS_nil))) mixed (c := bodyOf F_mkRm) func36 (by kernel_rfl) (name_ok (by kernel_rfl))
def i_mkMl : Nat := 27
noncomputable abbrev F_mkMl : Func := f27
def kp_mkMl : List (Nat × List Nat) := [(0, [4, 8, 9, 2]), (1, [4, 8, 9, 2]), (2, [4, 2]), (3, [16, 2])]
noncomputable def e_mkMl : Ent := inl [1, 0] prog (tabS [(i_mkRmS, e_mkRmS), (i_mkLI, e_mkLI)]) kp_mkMl 0 F_mkMl
theorem s_mkMl : EntOk prog i_mkMl e_mkMl := inl_ok (tabS_cons s_mkRmS (tabS_cons s_mkLI tabS_nil)) mixed (c := bodyOf F_mkMl) func27 (by kernel_rfl) (name_ok (by kernel_rfl))
def ok_EqRm (x : Rm × Rm) : Prop := okq_HdS x.1.kids ∧ okq_SfS x.1.things ∧ okq_LI x.1.tags
def ea_EqRm (x : Rm × Rm) : List Arg := [aR x.1.cs, aR x.2.cs]
def f_EqRm (x : Rm × Rm) : Bool := decide (x.1 = x.2)
noncomputable def e_EqRm : Ent := ent [] ok_EqRm ea_EqRm (erB 2) f_EqRm
theorem ea_EqRm_inj (x y : Rm × Rm) (h : ea_EqRm x = ea_EqRm y) : x = y := by
  obtain ⟨l1, r1⟩ := x
  obtain ⟨l2, r2⟩ := y
  simp only [ea_EqRm, List.cons.injEq, and_true, true_and] at h
  obtain ⟨e0, e1⟩ := h
  obtain rfl := Rm.cs_ext (aR_inj e0)
  obtain rfl := Rm.cs_ext (aR_inj e1)
  rfl
theorem dm_EqRm {l : Rm} {r : Rm} (h : ok_EqRm (l, r)) : dom ok_EqRm ea_EqRm [(0, true, [C.tr false (T.int IntKind.i64 l.h.slot), C.tr false (T.int IntKind.i64 l.h.gen), C.tr false (T.int IntKind.i64 l.up.slot), C.tr false (T.int IntKind.i64 l.up.gen), C.tr false (T.arr 2 l.kids.length (atL Hd.cs l.kids)), C.tr false (T.int IntKind.i64 l.ep), C.tr false (T.int IntKind.i64 l.chunks), C.tr false (T.bool l.cur), C.tr false (T.int IntKind.i64 l.bump), C.tr false (T.arr 1 l.things.length (atL Sf.cs l.things)), C.tr false (T.arr 1 l.tags.length (atL rowI l.tags))]), (0, true, [C.tr false (T.int IntKind.i64 r.h.slot), C.tr false (T.int IntKind.i64 r.h.gen), C.tr false (T.int IntKind.i64 r.up.slot), C.tr false (T.int IntKind.i64 r.up.gen), C.tr false (T.arr 2 r.kids.length (atL Hd.cs r.kids)), C.tr false (T.int IntKind.i64 r.ep), C.tr false (T.int IntKind.i64 r.chunks), C.tr false (T.bool r.cur), C.tr false (T.int IntKind.i64 r.bump), C.tr false (T.arr 1 r.things.length (atL Sf.cs r.things)), C.tr false (T.arr 1 r.tags.length (atL rowI r.tags))])] = true := dom_ea (ea := ea_EqRm) (x := (l, r)) h
theorem iv_EqRm {l : Rm} {r : Rm} (h : ok_EqRm (l, r)) : inv ok_EqRm ea_EqRm [(0, true, [C.tr false (T.int IntKind.i64 l.h.slot), C.tr false (T.int IntKind.i64 l.h.gen), C.tr false (T.int IntKind.i64 l.up.slot), C.tr false (T.int IntKind.i64 l.up.gen), C.tr false (T.arr 2 l.kids.length (atL Hd.cs l.kids)), C.tr false (T.int IntKind.i64 l.ep), C.tr false (T.int IntKind.i64 l.chunks), C.tr false (T.bool l.cur), C.tr false (T.int IntKind.i64 l.bump), C.tr false (T.arr 1 l.things.length (atL Sf.cs l.things)), C.tr false (T.arr 1 l.tags.length (atL rowI l.tags))]), (0, true, [C.tr false (T.int IntKind.i64 r.h.slot), C.tr false (T.int IntKind.i64 r.h.gen), C.tr false (T.int IntKind.i64 r.up.slot), C.tr false (T.int IntKind.i64 r.up.gen), C.tr false (T.arr 2 r.kids.length (atL Hd.cs r.kids)), C.tr false (T.int IntKind.i64 r.ep), C.tr false (T.int IntKind.i64 r.chunks), C.tr false (T.bool r.cur), C.tr false (T.int IntKind.i64 r.bump), C.tr false (T.arr 1 r.things.length (atL Sf.cs r.things)), C.tr false (T.arr 1 r.tags.length (atL rowI r.tags))])] = (l, r) := inv_ea ea_EqRm_inj (x := (l, r)) h
theorem d_EqRm (l : Rm) (r : Rm) : f_EqRm (l, r) = decide (l = r) := rfl
def i_EqRm : Nat := 35
noncomputable abbrev F_EqRm : Func := f35
def kp_EqRm : List (Nat × List Nat) := [(0, [8, 9, 12, 13]), (1, [8, 9, 12, 13, 40]), (2, [16]), (3, [8, 9, 12, 13, 64]), (4, [16]), (5, [8, 9, 12, 13, 88]), (6, [16]), (7, [8, 9, 12, 13, 108]), (8, [16]), (9, [8, 9, 12, 13, 128]), (10, [16]), (11, [8, 9, 12, 13, 148]), (12, [16]), (13, [8, 9, 12, 13, 168]), (14, [16]), (15, [8, 9, 12, 13, 192]), (16, [16]), (17, [216]), (18, [16]), (19, [16])]
def ts_EqRm : List Nat := [0, 0]
theorem pre_EqRm (l : Rm) (r : Rm) (n : Nat) : body prog (tabS [(i_eqHd, e_eqHd), (i_eqHdS, e_eqHdS), (i_eqSfS, e_eqSfS), (i_eqLI, e_eqLI)]) kp_EqRm n F_EqRm [aR l.cs, aR r.cs] = (
 bif l.h.1 != r.h.1 then
  some ([(false, [.tr true (T.bool false)])], [(false, []), (false, [])])
 else
 bif l.h.2 != r.h.2 then
  some ([(false, [.tr true (T.bool false)])], [(false, []), (false, [])])
 else
 bif l.up.1 != r.up.1 then
  some ([(false, [.tr true (T.bool false)])], [(false, []), (false, [])])
 else
 bif l.up.2 != r.up.2 then
  some ([(false, [.tr true (T.bool false)])], [(false, []), (false, [])])
 else
 gd (dom ok2_HdS ea2_HdS [(0, false, [C.tr false (eL 2 Hd.cs l.3)]), (0, false, [C.tr false (eL 2 Hd.cs r.3)])]) <|
 bif !f_eqHdS (inv ok2_HdS ea2_HdS [(0, false, [C.tr false (eL 2 Hd.cs l.3)]), (0, false, [C.tr false (eL 2 Hd.cs r.3)])]) then
  some ([(false, [.tr true (T.bool false)])], [(false, []), (false, [])])
 else
 bif l.4 != r.4 then
  some ([(false, [.tr true (T.bool false)])], [(false, []), (false, [])])
 else
 bif l.5 != r.5 then
  some ([(false, [.tr true (T.bool false)])], [(false, []), (false, [])])
 else
 bif !l.6 == r.6 then
  some ([(false, [.tr true (T.bool false)])], [(false, []), (false, [])])
 else
 bif l.7 != r.7 then
  some ([(false, [.tr true (T.bool false)])], [(false, []), (false, [])])
 else
 gd (dom ok2_SfS ea2_SfS [(0, false, [C.tr false (eL 1 Sf.cs l.8)]), (0, false, [C.tr false (eL 1 Sf.cs r.8)])]) <|
 bif !f_eqSfS (inv ok2_SfS ea2_SfS [(0, false, [C.tr false (eL 1 Sf.cs l.8)]), (0, false, [C.tr false (eL 1 Sf.cs r.8)])]) then
  some ([(false, [.tr true (T.bool false)])], [(false, []), (false, [])])
 else
 gd (dom ok2_LI ea2_LI [(0, false, [C.tr false (eL 1 rowI l.9)]), (0, false, [C.tr false (eL 1 rowI r.9)])]) <|
 bif !f_eqLI (inv ok2_LI ea2_LI [(0, false, [C.tr false (eL 1 rowI l.9)]), (0, false, [C.tr false (eL 1 rowI r.9)])]) then
  some ([(false, [.tr true (T.bool false)])], [(false, []), (false, [])])
 else
 some ([(false, [.tr true (T.bool true)])], [(false, []), (false, [])])) := by kernel_rfl
theorem body_EqRm (l : Rm) (r : Rm) (n : Nat) (h : ok_EqRm (l, r)) : body prog (tabS [(i_eqHd, e_eqHd), (i_eqHdS, e_eqHdS), (i_eqSfS, e_eqSfS), (i_eqLI, e_eqLI)]) kp_EqRm n F_EqRm (ea_EqRm (l, r)) = some (erB 2 (f_EqRm (l, r))) := by
  have h0 : okq_HdS l.kids := h.1
  have h1 : okq_SfS l.things := h.2.1
  have h2 : okq_LI l.tags := h.2.2
  unfold ea_EqRm f_EqRm
  try dsimp only
  rw [pre_EqRm]
  simp only [lt_d, ge0_d, Int.toNat_natCast, blt_d, ble_self, beq_self, decide_true, cond_true, Bool.and_self, Bool.and_true, Bool.true_and, gd_true, Nat.zero_add, List.getD_cons_zero, List.getD_cons_succ, isI_int, toI_int, isB_bool, toB_bool, eL_T, arr_ln, arr_fn, arr_wd, arr_is, arr_get, Rm.cs, int_ne, bool_ne, bool_eq, dm_eqHdS h0, iv_eqHdS h0, d_eqHdS, dm_eqSfS h1, iv_eqSfS h1, d_eqSfS, dm_eqLI h2, iv_eqLI h2, d_eqLI, chain]
  have hxy : (l.h.slot = r.h.slot ∧ l.h.gen = r.h.gen ∧ l.up.slot = r.up.slot ∧ l.up.gen = r.up.gen ∧ l.kids = r.kids ∧ l.ep = r.ep ∧ l.chunks = r.chunks ∧ l.cur = r.cur ∧ l.bump = r.bump ∧ l.things = r.things ∧ l.tags = r.tags) ↔ l = r := by
    rcases l with ⟨⟨x0, x1⟩, ⟨x2, x3⟩, x4, x5, x6, x7, x8, x9, x10⟩
    rcases r with ⟨⟨y0, y1⟩, ⟨y2, y3⟩, y4, y5, y6, y7, y8, y9, y10⟩
    simp [and_assoc]
  simp only [hxy]
  by_cases e : l = r
  · simp only [e, decide_true, Bool.not_true, cond_false]
    rfl
  · simp only [e, decide_false, Bool.not_false, cond_true]
    rfl
theorem s_EqRm : EntOk prog i_EqRm e_EqRm := ent_ok ea_EqRm_inj fun x hx =>
  body_sound (φ := (tabS [(i_eqHd, e_eqHd), (i_eqHdS, e_eqHdS), (i_eqSfS, e_eqSfS), (i_eqLI, e_eqLI)])) (tabS_cons s_eqHd (tabS_cons s_eqHdS (tabS_cons s_eqSfS (tabS_cons s_eqLI tabS_nil)))) mixed (kp := kp_EqRm) (n := 0) func35 (c := bodyOf F_EqRm) (by kernel_rfl) (body_EqRm x.1 x.2 (0) hx) (name_ok (by kernel_rfl))
end Go.Mach.F