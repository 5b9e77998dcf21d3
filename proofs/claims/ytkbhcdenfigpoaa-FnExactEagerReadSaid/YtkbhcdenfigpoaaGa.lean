/- Results: the laws' copies and comparisons. Conditions: none. -/
import Derived.Test.YtkbhcdenfigpoaaFb
import Derived.Test.YtkbhcdenfigpoaaRo
set_option linter.all false
namespace Go.Mach.F
open Go Go.Mach Go.Proofs.Try
--=set_option maxRecDepth 100000
theorem aR_inj {cs cs' : List T} (h : aR cs = aR cs') : cs = cs' := by
  have e := congrArg (fun a : Arg => a.2.2) h
  exact (List.map_inj_right (fun x y h => by cases h; rfl)).1 e
theorem aT_inj {t t' : T} (h : aT t = aT t') : t = t' := by cases h; rfl
theorem aI_inj {n m : Int} (h : aI n = aI m) : n = m := by cases h; rfl
theorem aB_inj {n m : Bool} (h : aB n = aB m) : n = m := by cases h; rfl
theorem allU8_B (l : List UInt8) : allU8 l.length (atL rowB l) = true := by
  unfold allU8
  rw [List.all_eq_true]
  intro j hj
  have hj : j < l.length := List.mem_range.1 hj
  rw [atL_of (List.getElem?_eq_getElem hj)]
  rfl
theorem nums_B (l : List UInt8) : numsOf l.length (atL rowB l) = l.map fun x => (x.toNat : Int) := by
  unfold numsOf
  apply List.ext_getElem?
  intro j
  rw [List.getElem?_map, List.getElem?_map]
  by_cases hj : j < l.length
  · rw [List.getElem?_range hj, List.getElem?_eq_getElem hj]
    simp only [Option.map_some, atL_of (List.getElem?_eq_getElem hj)]
    rfl
  · rw [List.getElem?_eq_none (by simp; omega), List.getElem?_eq_none (by omega)]
    rfl
theorem str_B (l : List UInt8) : (strOfNums (numsOf l.length (atL rowB l))).toList = l := by
  rw [ByteArray.toList_eq, nums_B, strOfNums_data, List.map_map]
  refine Eq.trans (List.map_congr_left fun x _ => ?_) (List.map_id l)
  show UInt8.ofNat ((x.toNat : Int)).toNat = x
  rw [Int.toNat_natCast]
  exact UInt8.toNat_inj.1 (by simp)
theorem cond_tf (b : Bool) : (bif b then true else false) = b := by cases b <;> rfl
theorem cond_bf (a b : Bool) : (bif a then b else false) = (a && b) := by cases a <;> rfl
theorem chainp {α : Type} {p q : Prop} [Decidable p] [Decidable q] {R N : α} : (bif decide p then (bif decide q then R else N) else N) = bif decide (p ∧ q) then R else N := by
  by_cases h : p <;> by_cases h' : q <;> simp [h, h']
theorem dec_and {p q : Prop} [Decidable p] [Decidable q] : (decide p && decide q) = decide (p ∧ q) := (Bool.decide_and p q).symm
theorem fin_b {p q : Prop} [Decidable p] [Decidable q] {β : Type} (F : Bool → β) : (bif decide p then F (decide q) else F false) = F (decide (p ∧ q)) := by
  by_cases h : p <;> simp [h]
theorem int_eq (a b : Int) : (a == b) = decide (a = b) := by by_cases h : a = b <;> simp [h]
theorem bytes_eq (a b : List UInt8) : (a == b) = decide (a = b) := by by_cases h : a = b <;> simp [h]
theorem cut_all {α : Type} (row : α → List T) (l : List α) : cutT 0 l.length (atL row l) = atL row l := by
  funext j k
  unfold cutT
  rw [blt_d, Bool.cond_decide]
  split
  · rw [Nat.zero_add]
  · rename_i h
    unfold atL
    rw [List.getElem?_eq_none (by omega)]
theorem bool_self (b : Bool) : (b == b) = true := by cases b <;> rfl
theorem bool_nself (b : Bool) : (b != b) = false := by cases b <;> rfl
theorem int_self (a : Int) : (a == a) = true := by simp
theorem int_nself (a : Int) : (a != a) = false := by simp
def aF (f : Nat) (cs : List T) : Arg := (0, (false, [.fn f [.pim cs.length (pimF cs)]]))
def aG (f : Nat) : Arg := (0, (false, [.fn f []]))
theorem aF_inj {f : Nat} {cs cs' : List T} (hl : cs.length = cs'.length) (h : aF f cs = aF f cs') : cs = cs' := by
  simp only [aF, Prod.mk.injEq, List.cons.injEq, C.fn.injEq, Pt.pim.injEq, true_and, and_true] at h
  apply List.ext_getElem hl
  intro i hi hi'
  have := congrFun h.2 i
  simpa [pimF, List.getD_eq_getElem?_getD, List.getElem?_eq_getElem hi, List.getElem?_eq_getElem hi'] using this

theorem Hd.cs_ext {x y : Hd} (h : x.cs = y.cs) : x = y := Hd.cs_inj x y fun k => by rw [h]
theorem Rf.cs_inj (x y : Rf) (h : ∀ k, x.cs.getD k .hole = y.cs.getD k .hole) : x = y := by
  have h0 := h 0; have h1 := h 1; have h2 := h 2; have h3 := h 3
  rcases x with ⟨⟨x0, x1⟩, x2, x3⟩
  rcases y with ⟨⟨y0, y1⟩, y2, y3⟩
  simp only [Rf.cs, List.getD_cons_zero, List.getD_cons_succ, T.int.injEq, T.bool.injEq, true_and] at h0 h1 h2 h3
  subst h0; subst h1; subst h2; subst h3
  rfl
theorem Rf.cs_ext {x y : Rf} (h : x.cs = y.cs) : x = y := Rf.cs_inj x y fun k => by rw [h]
def i_toRf : Nat := 23
noncomputable abbrev F_toRf : Func := f23
def kp_toRf : List (Nat × List Nat) := [(0, [4, 5, 8, 9]), (1, [4, 5, 8, 9, 12, 13]), (2, [4, 5, 8, 9, 12, 13]), (3, [4, 5, 8, 9, 12, 13]), (4, [8, 9, 12, 13]), (5, [8, 9])]
noncomputable def e_toRf : Ent := inl [] prog (tabS [(i_toHd, e_toHd)]) kp_toRf 0 F_toRf
theorem s_toRf : EntOk prog i_toRf e_toRf := inl_ok (tabS_cons s_toHd tabS_nil) mixed (c := bodyOf F_toRf) func23 (by kernel_rfl) (name_ok (by kernel_rfl))
theorem Cf.cs_inj (x y : Cf) (h : ∀ k, x.cs.getD k .hole = y.cs.getD k .hole) : x = y := by
  have h0 := h 0; have h1 := h 1; have h2 := h 2; have h3 := h 3; have h4 := h 4; have h5 := h 5
  rcases x with ⟨x0, x1, x2, x3, x4, x5⟩
  rcases y with ⟨y0, y1, y2, y3, y4, y5⟩
  simp only [Cf.cs, List.getD_cons_zero, List.getD_cons_succ, T.int.injEq, T.bool.injEq, true_and] at h0 h1 h2 h3 h4 h5
  subst h0; subst h1; subst h2; subst h3; subst h4; subst h5
  rfl
theorem Cf.cs_ext {x y : Cf} (h : x.cs = y.cs) : x = y := Cf.cs_inj x y fun k => by rw [h]
def i_toCf : Nat := 64
noncomputable abbrev F_toCf : Func := f64
def kp_toCf : List (Nat × List Nat) := [(0, [4, 5, 8, 9]), (1, [4, 5, 8, 9, 12, 13]), (2, [4, 5, 8, 9, 12, 13]), (3, [4, 5, 8, 9, 12, 13]), (4, [4, 5, 8, 9, 12, 13]), (5, [4, 5, 8, 9, 12, 13]), (6, [4, 5, 8, 9, 12, 13]), (7, [8, 9, 12, 13]), (8, [8, 9])]
noncomputable def e_toCf : Ent := inl [] prog (tabS []) kp_toCf 0 F_toCf
theorem s_toCf : EntOk prog i_toCf e_toCf := inl_ok tabS_nil mixed (c := bodyOf F_toCf) func64 (by kernel_rfl) (name_ok (by kernel_rfl))
def i_eqCf : Nat := 69
noncomputable abbrev F_eqCf : Func := f69
def kp_eqCf : List (Nat × List Nat) := [(0, [8, 9, 12, 13]), (1, [8, 9, 12, 13, 36]), (2, [16]), (3, [8, 9, 12, 13, 56]), (4, [16]), (5, [8, 9, 12, 13, 76]), (6, [16]), (7, [8, 9, 12, 13, 96]), (8, [16]), (9, [8, 9, 12, 13, 116]), (10, [16]), (11, [136]), (12, [16]), (13, [16])]
noncomputable def e_eqCf : Ent := inl [] prog (tabS []) kp_eqCf 0 F_eqCf
theorem s_eqCf : EntOk prog i_eqCf e_eqCf := inl_ok tabS_nil mixed (c := bodyOf F_eqCf) func69 (by kernel_rfl) (name_ok (by kernel_rfl))
abbrev shHd : List Sh := [.int .i64, .int .i64]
def z_Hd (x : Hd) : Prop := True
theorem sh_Hd {ts : List T} (hh : ShTs ts shHd) : ∃ x : Hd, ts = x.cs ∧ z_Hd x := by
  obtain ⟨t0, ts, rfl, h0, hh⟩ := shs_cons hh
  obtain ⟨t1, ts, rfl, h1, hh⟩ := shs_cons hh
  obtain rfl := shs_nil hh
  obtain ⟨x0, rfl, _⟩ := sh_int h0
  obtain ⟨x1, rfl, _⟩ := sh_int h1
  exact ⟨⟨x0, x1⟩, rfl, trivial⟩
abbrev shRf : List Sh := [.int .i64, .int .i64, .int .i64, .int .i64]
def z_Rf (x : Rf) : Prop := True
theorem sh_Rf {ts : List T} (hh : ShTs ts shRf) : ∃ x : Rf, ts = x.cs ∧ z_Rf x := by
  obtain ⟨t0, ts, rfl, h0, hh⟩ := shs_cons hh
  obtain ⟨t1, ts, rfl, h1, hh⟩ := shs_cons hh
  obtain ⟨t2, ts, rfl, h2, hh⟩ := shs_cons hh
  obtain ⟨t3, ts, rfl, h3, hh⟩ := shs_cons hh
  obtain rfl := shs_nil hh
  obtain ⟨x0, rfl, _⟩ := sh_int h0
  obtain ⟨x1, rfl, _⟩ := sh_int h1
  obtain ⟨x2, rfl, _⟩ := sh_int h2
  obtain ⟨x3, rfl, _⟩ := sh_int h3
  exact ⟨⟨⟨x0, x1⟩, x2, x3⟩, rfl, trivial⟩
abbrev shCf : List Sh := [.int .i64, .int .i64, .int .i64, .int .i64, .int .i64, .int .i64]
def z_Cf (x : Cf) : Prop := True
theorem sh_Cf {ts : List T} (hh : ShTs ts shCf) : ∃ x : Cf, ts = x.cs ∧ z_Cf x := by
  obtain ⟨t0, ts, rfl, h0, hh⟩ := shs_cons hh
  obtain ⟨t1, ts, rfl, h1, hh⟩ := shs_cons hh
  obtain ⟨t2, ts, rfl, h2, hh⟩ := shs_cons hh
  obtain ⟨t3, ts, rfl, h3, hh⟩ := shs_cons hh
  obtain ⟨t4, ts, rfl, h4, hh⟩ := shs_cons hh
  obtain ⟨t5, ts, rfl, h5, hh⟩ := shs_cons hh
  obtain rfl := shs_nil hh
  obtain ⟨x0, rfl, _⟩ := sh_int h0
  obtain ⟨x1, rfl, _⟩ := sh_int h1
  obtain ⟨x2, rfl, _⟩ := sh_int h2
  obtain ⟨x3, rfl, _⟩ := sh_int h3
  obtain ⟨x4, rfl, _⟩ := sh_int h4
  obtain ⟨x5, rfl, _⟩ := sh_int h5
  exact ⟨⟨x0, x1, x2, x3, x4, x5⟩, rfl, trivial⟩
theorem sh_HdS {t : T} (h : ShT t (.arr shHd)) : ∃ l : List Hd, t = eL 2 Hd.cs l ∧ l.length ≤ ZM ∧ ∀ x ∈ l, z_Hd x := sh_list z_Hd (fun _ => rfl) (fun _ hts => sh_Hd hts) h
end Go.Mach.F