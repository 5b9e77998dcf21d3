/- Results: the laws' copies and comparisons. Conditions: none. -/
import Derived.Test.YtphbidnhhhgmjaaFb
import Derived.Test.YtphbidnhhhgmjaaRo
set_option linter.all false
namespace Go.Mach.F
open Go Go.Mach Go.Proofs.Try
--=set_option maxRecDepth 100000
theorem aR_inj {cs cs' : List T} (h : aR cs = aR cs') : cs = cs' := by
  have e := congrArg (fun a : Arg => a.2.2) h
  exact (List.map_inj_right (fun x y h => by cases h; rfl)).1 e
theorem aT_inj {t t' : T} (h : aT t = aT t') : t = t' := by cases h; rfl
theorem aI_inj {n m : Int} (h : aI n = aI m) : n = m := by cases h; rfl
theorem aB_inj {n m : Bool} (h : aB n = aB m) : n = m := by cases h; rfl
theorem allU8_B (l : List UInt8) : allU8 l.length (atL rowB l) = true := by
  unfold allU8
  rw [List.all_eq_true]
  intro j hj
  have hj : j < l.length := List.mem_range.1 hj
  rw [atL_of (List.getElem?_eq_getElem hj)]
  rfl
theorem nums_B (l : List UInt8) : numsOf l.length (atL rowB l) = l.map fun x => (x.toNat : Int) := by
  unfold numsOf
  apply List.ext_getElem?
  intro j
  rw [List.getElem?_map, List.getElem?_map]
  by_cases hj : j < l.length
  · rw [List.getElem?_range hj, List.getElem?_eq_getElem hj]
    simp only [Option.map_some, atL_of (List.getElem?_eq_getElem hj)]
    rfl
  · rw [List.getElem?_eq_none (by simp; omega), List.getElem?_eq_none (by omega)]
    rfl
theorem str_B (l : List UInt8) : (strOfNums (numsOf l.length (atL rowB l))).toList = l := by
  rw [ByteArray.toList_eq, nums_B, strOfNums_data, List.map_map]
  refine Eq.trans (List.map_congr_left fun x _ => ?_) (List.map_id l)
  show UInt8.ofNat ((x.toNat : Int)).toNat = x
  rw [Int.toNat_natCast]
  exact UInt8.toNat_inj.1 (by simp)
theorem cond_tf (b : Bool) : (bif b then true else false) = b := by cases b <;> rfl
theorem cond_bf (a b : Bool) : (bif a then b else false) = (a && b) := by cases a <;> rfl
theorem chainp {α : Type} {p q : Prop} [Decidable p] [Decidable q] {R N : α} : (bif decide p then (bif decide q then R else N) else N) = bif decide (p ∧ q) then R else N := by
  by_cases h : p <;> by_cases h' : q <;> simp [h, h']
theorem dec_and {p q : Prop} [Decidable p] [Decidable q] : (decide p && decide q) = decide (p ∧ q) := (Bool.decide_and p q).symm
theorem fin_b {p q : Prop} [Decidable p] [Decidable q] {β : Type} (F : Bool → β) : (bif decide p then F (decide q) else F false) = F (decide (p ∧ q)) := by
  by_cases h : p <;> simp [h]
theorem int_eq (a b : Int) : (a == b) = decide (a = b) := by by_cases h : a = b <;> simp [h]
theorem bytes_eq (a b : List UInt8) : (a == b) = decide (a = b) := by by_cases h : a = b <;> simp [h]
theorem cut_all {α : Type} (row : α → List T) (l : List α) : cutT 0 l.length (atL row l) = atL row l := by
  funext j k
  unfold cutT
  rw [blt_d, Bool.cond_decide]
  split
  · rw [Nat.zero_add]
  · rename_i h
    unfold atL
    rw [List.getElem?_eq_none (by omega)]
theorem bool_self (b : Bool) : (b == b) = true := by cases b <;> rfl
theorem bool_nself (b : Bool) : (b != b) = false := by cases b <;> rfl
theorem int_self (a : Int) : (a == a) = true := by simp
theorem int_nself (a : Int) : (a != a) = false := by simp
def aF (f : Nat) (cs : List T) : Arg := (0, (false, [.fn f [.pim cs.length (pimF cs)]]))
def aG (f : Nat) : Arg := (0, (false, [.fn f []]))
theorem aF_inj {f : Nat} {cs cs' : List T} (hl : cs.length = cs'.length) (h : aF f cs = aF f cs') : cs = cs' := by
  simp only [aF, Prod.mk.injEq, List.cons.injEq, C.fn.injEq, Pt.pim.injEq, true_and, and_true] at h
  apply List.ext_getElem hl
  intro i hi hi'
  have := congrFun h.2 i
  simpa [pimF, List.getD_eq_getElem?_getD, List.getElem?_eq_getElem hi, List.getElem?_eq_getElem hi'] using this

theorem Hd.cs_ext {x y : Hd} (h : x.cs = y.cs) : x = y := Hd.cs_inj x y fun k => by rw [h]
theorem Rf.cs_inj (x y : Rf) (h : ∀ k, x.cs.getD k .hole = y.cs.getD k .hole) : x = y := by
  have h0 := h 0; have h1 := h 1; have h2 := h 2; have h3 := h 3
  rcases x with ⟨⟨x0, x1⟩, x2, x3⟩
  rcases y with ⟨⟨y0, y1⟩, y2, y3⟩
  simp only [Rf.cs, List.getD_cons_zero, List.getD_cons_succ, T.int.injEq, T.bool.injEq, true_and] at h0 h1 h2 h3
  subst h0; subst h1; subst h2; subst h3
  rfl
theorem Rf.cs_ext {x y : Rf} (h : x.cs = y.cs) : x = y := Rf.cs_inj x y fun k => by rw [h]
def i_toRf : Nat := 47
noncomputable abbrev F_toRf : Func := f47
def kp_toRf : List (Nat × List Nat) := [(0, [4, 5, 8, 9]), (1, [4, 5, 8, 9, 12, 13]), (2, [4, 5, 8, 9, 12, 13]), (3, [4, 5, 8, 9, 12, 13]), (4, [8, 9, 12, 13]), (5, [8, 9])]
noncomputable def e_toRf : Ent := inl [] prog (tabS [(i_toHd, e_toHd)]) kp_toRf 0 F_toRf
theorem s_toRf : EntOk prog i_toRf e_toRf := inl_ok (tabS_cons s_toHd tabS_nil) mixed (c := bodyOf F_toRf) func47 (by kernel_rfl) (name_ok (by kernel_rfl))
def i_eqRf : Nat := 65
noncomputable abbrev F_eqRf : Func := f65
def kp_eqRf : List (Nat × List Nat) := [(0, [8, 9, 12, 13]), (1, [8, 9, 12, 13, 40]), (2, [16]), (3, [8, 9, 12, 13, 60]), (4, [16]), (5, [80]), (6, [16]), (7, [16])]
noncomputable def e_eqRf : Ent := inl [] prog (tabS [(i_eqHd, e_eqHd)]) kp_eqRf 0 F_eqRf
theorem s_eqRf : EntOk prog i_eqRf e_eqRf := inl_ok (tabS_cons s_eqHd tabS_nil) mixed (c := bodyOf F_eqRf) func65 (by kernel_rfl) (name_ok (by kernel_rfl))
theorem Cf.cs_inj (x y : Cf) (h : ∀ k, x.cs.getD k .hole = y.cs.getD k .hole) : x = y := by
  have h0 := h 0; have h1 := h 1; have h2 := h 2; have h3 := h 3; have h4 := h 4; have h5 := h 5
  rcases x with ⟨x0, x1, x2, x3, x4, x5⟩
  rcases y with ⟨y0, y1, y2, y3, y4, y5⟩
  simp only [Cf.cs, List.getD_cons_zero, List.getD_cons_succ, T.int.injEq, T.bool.injEq, true_and] at h0 h1 h2 h3 h4 h5
  subst h0; subst h1; subst h2; subst h3; subst h4; subst h5
  rfl
theorem Cf.cs_ext {x y : Cf} (h : x.cs = y.cs) : x = y := Cf.cs_inj x y fun k => by rw [h]
def i_toCf : Nat := 25
noncomputable abbrev F_toCf : Func := f25
def kp_toCf : List (Nat × List Nat) := [(0, [4, 5, 8, 9]), (1, [4, 5, 8, 9, 12, 13]), (2, [4, 5, 8, 9, 12, 13]), (3, [4, 5, 8, 9, 12, 13]), (4, [4, 5, 8, 9, 12, 13]), (5, [4, 5, 8, 9, 12, 13]), (6, [4, 5, 8, 9, 12, 13]), (7, [8, 9, 12, 13]), (8, [8, 9])]
noncomputable def e_toCf : Ent := inl [] prog (tabS []) kp_toCf 0 F_toCf
theorem s_toCf : EntOk prog i_toCf e_toCf := inl_ok tabS_nil mixed (c := bodyOf F_toCf) func25 (by kernel_rfl) (name_ok (by kernel_rfl))
def i_eqCf : Nat := 67
noncomputable abbrev F_eqCf : Func := f67
def kp_eqCf : List (Nat × List Nat) := [(0, [8, 9, 12, 13]), (1, [8, 9, 12, 13, 36]), (2, [16]), (3, [8, 9, 12, 13, 56]), (4, [16]), (5, [8, 9, 12, 13, 76]), (6, [16]), (7, [8, 9, 12, 13, 96]), (8, [16]), (9, [8, 9, 12, 13, 116]), (10, [16]), (11, [136]), (12, [16]), (13, [16])]
noncomputable def e_eqCf : Ent := inl [] prog (tabS []) kp_eqCf 0 F_eqCf
theorem s_eqCf : EntOk prog i_eqCf e_eqCf := inl_ok tabS_nil mixed (c := bodyOf F_eqCf) func67 (by kernel_rfl) (name_ok (by kernel_rfl))
theorem An.cs_inj (x y : An) (h : ∀ k, x.cs.getD k .hole = y.cs.getD k .hole) : x = y := by
  have h0 := h 0; have h1 := h 1; have h2 := h 2; have h3 := h 3; have h4 := h 4; have h5 := h 5; have h6 := h 6; have h7 := h 7; have h8 := h 8; have h9 := h 9; have h10 := h 10
  rcases x with ⟨x0, ⟨x1, x2⟩, ⟨⟨x3, x4⟩, x5, x6⟩, x7, x8, x9, x10⟩
  rcases y with ⟨y0, ⟨y1, y2⟩, ⟨⟨y3, y4⟩, y5, y6⟩, y7, y8, y9, y10⟩
  simp only [An.cs, List.getD_cons_zero, List.getD_cons_succ, T.int.injEq, T.bool.injEq, true_and] at h0 h1 h2 h3 h4 h5 h6 h7 h8 h9 h10
  replace h7 := eB_inj h7
  subst h0; subst h1; subst h2; subst h3; subst h4; subst h5; subst h6; subst h7; subst h8; subst h9; subst h10
  rfl
theorem An.cs_ext {x y : An} (h : x.cs = y.cs) : x = y := An.cs_inj x y fun k => by rw [h]
def i_toAn : Nat := 17
noncomputable abbrev F_toAn : Func := f17
def kp_toAn : List (Nat × List Nat) := [(0, [4, 5, 8, 9, 12, 13, 112]), (1, [4, 5, 8, 9, 12, 13, 112]), (2, [4, 5, 8, 9, 12, 13, 112]), (3, [4, 5, 8, 9, 12, 13, 112]), (4, [4, 5, 8, 9, 12, 13, 112]), (5, [4, 5, 8, 9, 12, 13, 112]), (6, [4, 5, 8, 9, 12, 13, 112]), (7, [4, 5, 8, 9, 12, 13, 112]), (8, [8, 9, 12, 13, 112]), (9, [8, 9, 12, 13, 112])]
noncomputable def e_toAn : Ent := inl [] prog (tabS [(i_toHd, e_toHd), (i_toRf, e_toRf), (i_toLB, e_toLB)]) kp_toAn 0 F_toAn
theorem s_toAn : EntOk prog i_toAn e_toAn := inl_ok (tabS_cons s_toHd (tabS_cons s_toRf (tabS_cons s_toLB tabS_nil))) mixed (c := bodyOf F_toAn) func17 (by kernel_rfl) (name_ok (by kernel_rfl))
def i_eqAn : Nat := 19
noncomputable abbrev F_eqAn : Func := f19
def kp_eqAn : List (Nat × List Nat) := [(0, [8, 9, 12, 13]), (1, [8, 9, 12, 13, 36]), (2, [16]), (3, [8, 9, 12, 13, 60]), (4, [16]), (5, [8, 9, 12, 13, 84]), (6, [16]), (7, [8, 9, 12, 13, 108]), (8, [16]), (9, [8, 9, 12, 13, 128]), (10, [16]), (11, [8, 9, 12, 13, 148]), (12, [16]), (13, [168]), (14, [16]), (15, [16])]
noncomputable def e_eqAn : Ent := inl [] prog (tabS [(i_eqHd, e_eqHd), (i_eqRf, e_eqRf), (i_eqLB, e_eqLB)]) kp_eqAn 0 F_eqAn
theorem s_eqAn : EntOk prog i_eqAn e_eqAn := inl_ok (tabS_cons s_eqHd (tabS_cons s_eqRf (tabS_cons s_eqLB tabS_nil))) mixed (c := bodyOf F_eqAn) func19 (by kernel_rfl) (name_ok (by kernel_rfl))
def i_szAn : Nat := 15
noncomputable abbrev F_szAn : Func := f15
def kp_szAn : List (Nat × List Nat) := [(0, [4, 8, 9]), (1, [4]), (2, [4, 40]), (3, [16]), (4, [16])]
noncomputable def e_szAn : Ent := inl [] prog (tabS [(i_szLB, e_szLB)]) kp_szAn 0 F_szAn
theorem s_szAn : EntOk prog i_szAn e_szAn := inl_ok (tabS_cons s_szLB tabS_nil) mixed (c := bodyOf F_szAn) func15 (by kernel_rfl) (name_ok (by kernel_rfl))
abbrev shHd : List Sh := [.int .i64, .int .i64]
def z_Hd (x : Hd) : Prop := True
theorem sh_Hd {ts : List T} (hh : ShTs ts shHd) : ∃ x : Hd, ts = x.cs ∧ z_Hd x := by
  obtain ⟨t0, ts, rfl, h0, hh⟩ := shs_cons hh
  obtain ⟨t1, ts, rfl, h1, hh⟩ := shs_cons hh
  obtain rfl := shs_nil hh
  obtain ⟨x0, rfl, _⟩ := sh_int h0
  obtain ⟨x1, rfl, _⟩ := sh_int h1
  exact ⟨⟨x0, x1⟩, rfl, trivial⟩
abbrev shRf : List Sh := [.int .i64, .int .i64, .int .i64, .int .i64]
def z_Rf (x : Rf) : Prop := True
theorem sh_Rf {ts : List T} (hh : ShTs ts shRf) : ∃ x : Rf, ts = x.cs ∧ z_Rf x := by
  obtain ⟨t0, ts, rfl, h0, hh⟩ := shs_cons hh
  obtain ⟨t1, ts, rfl, h1, hh⟩ := shs_cons hh
  obtain ⟨t2, ts, rfl, h2, hh⟩ := shs_cons hh
  obtain ⟨t3, ts, rfl, h3, hh⟩ := shs_cons hh
  obtain rfl := shs_nil hh
  obtain ⟨x0, rfl, _⟩ := sh_int h0
  obtain ⟨x1, rfl, _⟩ := sh_int h1
  obtain ⟨x2, rfl, _⟩ := sh_int h2
  obtain ⟨x3, rfl, _⟩ := sh_int h3
  exact ⟨⟨⟨x0, x1⟩, x2, x3⟩, rfl, trivial⟩
abbrev shCf : List Sh := [.int .i64, .int .i64, .int .i64, .int .i64, .int .i64, .int .i64]
def z_Cf (x : Cf) : Prop := True
theorem sh_Cf {ts : List T} (hh : ShTs ts shCf) : ∃ x : Cf, ts = x.cs ∧ z_Cf x := by
  obtain ⟨t0, ts, rfl, h0, hh⟩ := shs_cons hh
  obtain ⟨t1, ts, rfl, h1, hh⟩ := shs_cons hh
  obtain ⟨t2, ts, rfl, h2, hh⟩ := shs_cons hh
  obtain ⟨t3, ts, rfl, h3, hh⟩ := shs_cons hh
  obtain ⟨t4, ts, rfl, h4, hh⟩ := shs_cons hh
  obtain ⟨t5, ts, rfl, h5, hh⟩ := shs_cons hh
  obtain rfl := shs_nil hh
  obtain ⟨x0, rfl, _⟩ := sh_int h0
  obtain ⟨x1, rfl, _⟩ := sh_int h1
  obtain ⟨x2, rfl, _⟩ := sh_int h2
  obtain ⟨x3, rfl, _⟩ := sh_int h3
  obtain ⟨x4, rfl, _⟩ := sh_int h4
  obtain ⟨x5, rfl, _⟩ := sh_int h5
  exact ⟨⟨x0, x1, x2, x3, x4, x5⟩, rfl, trivial⟩
abbrev shAn : List Sh := [.int .i64, .int .i64, .int .i64, .int .i64, .int .i64, .int .i64, .int .i64, .arr [.int .u8], .int .i64, .int .i64, .int .i64]
def z_An (x : An) : Prop := okz_LB x.b
theorem sh_An {ts : List T} (hh : ShTs ts shAn) : ∃ x : An, ts = x.cs ∧ z_An x := by
  obtain ⟨t0, ts, rfl, h0, hh⟩ := shs_cons hh
  obtain ⟨t1, ts, rfl, h1, hh⟩ := shs_cons hh
  obtain ⟨t2, ts, rfl, h2, hh⟩ := shs_cons hh
  obtain ⟨t3, ts, rfl, h3, hh⟩ := shs_cons hh
  obtain ⟨t4, ts, rfl, h4, hh⟩ := shs_cons hh
  obtain ⟨t5, ts, rfl, h5, hh⟩ := shs_cons hh
  obtain ⟨t6, ts, rfl, h6, hh⟩ := shs_cons hh
  obtain ⟨t7, ts, rfl, h7, hh⟩ := shs_cons hh
  obtain ⟨t8, ts, rfl, h8, hh⟩ := shs_cons hh
  obtain ⟨t9, ts, rfl, h9, hh⟩ := shs_cons hh
  obtain ⟨t10, ts, rfl, h10, hh⟩ := shs_cons hh
  obtain rfl := shs_nil hh
  obtain ⟨x0, rfl, _⟩ := sh_int h0
  obtain ⟨x1, rfl, _⟩ := sh_int h1
  obtain ⟨x2, rfl, _⟩ := sh_int h2
  obtain ⟨x3, rfl, _⟩ := sh_int h3
  obtain ⟨x4, rfl, _⟩ := sh_int h4
  obtain ⟨x5, rfl, _⟩ := sh_int h5
  obtain ⟨x6, rfl, _⟩ := sh_int h6
  obtain ⟨x7, rfl, z7⟩ := sh_LB h7
  obtain ⟨x8, rfl, _⟩ := sh_int h8
  obtain ⟨x9, rfl, _⟩ := sh_int h9
  obtain ⟨x10, rfl, _⟩ := sh_int h10
  exact ⟨⟨x0, ⟨x1, x2⟩, ⟨⟨x3, x4⟩, x5, x6⟩, x7, x8, x9, x10⟩, rfl, z7⟩
theorem sh_HdS {t : T} (h : ShT t (.arr shHd)) : ∃ l : List Hd, t = eL 2 Hd.cs l ∧ l.length ≤ ZM ∧ ∀ x ∈ l, z_Hd x := sh_list z_Hd (fun _ => rfl) (fun _ hts => sh_Hd hts) h
def ok_EqAn (x : An × An) : Prop := okq_LB x.1.b
def ea_EqAn (x : An × An) : List Arg := [aR x.1.cs, aR x.2.cs]
def f_EqAn (x : An × An) : Bool := decide (x.1 = x.2)
noncomputable def e_EqAn : Ent := ent [] ok_EqAn ea_EqAn (erB 2) f_EqAn
theorem ea_EqAn_inj (x y : An × An) (h : ea_EqAn x = ea_EqAn y) : x = y := by
  obtain ⟨l1, r1⟩ := x
  obtain ⟨l2, r2⟩ := y
  simp only [ea_EqAn, List.cons.injEq, and_true, true_and] at h
  obtain ⟨e0, e1⟩ := h
  obtain rfl := An.cs_ext (aR_inj e0)
  obtain rfl := An.cs_ext (aR_inj e1)
  rfl
theorem dm_EqAn {l : An} {r : An} (h : ok_EqAn (l, r)) : dom ok_EqAn ea_EqAn [(0, true, [C.tr false (T.int IntKind.i64 l.code), C.tr false (T.int IntKind.i64 l.h.slot), C.tr false (T.int IntKind.i64 l.h.gen), C.tr false (T.int IntKind.i64 l.r.h.slot), C.tr false (T.int IntKind.i64 l.r.h.gen), C.tr false (T.int IntKind.i64 l.r.ep), C.tr false (T.int IntKind.i64 l.r.no), C.tr false (T.arr 1 l.b.length (atL rowB l.b)), C.tr false (T.int IntKind.i64 l.walk), C.tr false (T.int IntKind.i64 l.tax), C.tr false (T.int IntKind.i64 l.drain)]), (0, true, [C.tr false (T.int IntKind.i64 r.code), C.tr false (T.int IntKind.i64 r.h.slot), C.tr false (T.int IntKind.i64 r.h.gen), C.tr false (T.int IntKind.i64 r.r.h.slot), C.tr false (T.int IntKind.i64 r.r.h.gen), C.tr false (T.int IntKind.i64 r.r.ep), C.tr false (T.int IntKind.i64 r.r.no), C.tr false (T.arr 1 r.b.length (atL rowB r.b)), C.tr false (T.int IntKind.i64 r.walk), C.tr false (T.int IntKind.i64 r.tax), C.tr false (T.int IntKind.i64 r.drain)])] = true := dom_ea (ea := ea_EqAn) (x := (l, r)) h
theorem iv_EqAn {l : An} {r : An} (h : ok_EqAn (l, r)) : inv ok_EqAn ea_EqAn [(0, true, [C.tr false (T.int IntKind.i64 l.code), C.tr false (T.int IntKind.i64 l.h.slot), C.tr false (T.int IntKind.i64 l.h.gen), C.tr false (T.int IntKind.i64 l.r.h.slot), C.tr false (T.int IntKind.i64 l.r.h.gen), C.tr false (T.int IntKind.i64 l.r.ep), C.tr false (T.int IntKind.i64 l.r.no), C.tr false (T.arr 1 l.b.length (atL rowB l.b)), C.tr false (T.int IntKind.i64 l.walk), C.tr false (T.int IntKind.i64 l.tax), C.tr false (T.int IntKind.i64 l.drain)]), (0, true, [C.tr false (T.int IntKind.i64 r.code), C.tr false (T.int IntKind.i64 r.h.slot), C.tr false (T.int IntKind.i64 r.h.gen), C.tr false (T.int IntKind.i64 r.r.h.slot), C.tr false (T.int IntKind.i64 r.r.h.gen), C.tr false (T.int IntKind.i64 r.r.ep), C.tr false (T.int IntKind.i64 r.r.no), C.tr false (T.arr 1 r.b.length (atL rowB r.b)), C.tr false (T.int IntKind.i64 r.walk), C.tr false (T.int IntKind.i64 r.tax), C.tr false (T.int IntKind.i64 r.drain)])] = (l, r) := inv_ea ea_EqAn_inj (x := (l, r)) h
theorem d_EqAn (l : An) (r : An) : f_EqAn (l, r) = decide (l = r) := rfl
def i_EqAn : Nat := 19
noncomputable abbrev F_EqAn : Func := f19
def kp_EqAn : List (Nat × List Nat) := [(0, [8, 9, 12, 13]), (1, [8, 9, 12, 13, 36]), (2, [16]), (3, [8, 9, 12, 13, 60]), (4, [16]), (5, [8, 9, 12, 13, 84]), (6, [16]), (7, [8, 9, 12, 13, 108]), (8, [16]), (9, [8, 9, 12, 13, 128]), (10, [16]), (11, [8, 9, 12, 13, 148]), (12, [16]), (13, [168]), (14, [16]), (15, [16])]
def ts_EqAn : List Nat := [0, 0]
theorem pre_EqAn (l : An) (r : An) (n : Nat) : body prog (tabS [(i_eqHd, e_eqHd), (i_eqRf, e_eqRf), (i_eqLB, e_eqLB)]) kp_EqAn n F_EqAn [aR l.cs, aR r.cs] = (
 bif l.1 != r.1 then
  some ([(false, [.tr true (T.bool false)])], [(false, []), (false, [])])
 else
 bif l.h.1 != r.h.1 then
  some ([(false, [.tr true (T.bool false)])], [(false, []), (false, [])])
 else
 bif l.h.2 != r.h.2 then
  some ([(false, [.tr true (T.bool false)])], [(false, []), (false, [])])
 else
 bif l.r.h.1 != r.r.h.1 then
  some ([(false, [.tr true (T.bool false)])], [(false, []), (false, [])])
 else
 bif l.r.h.2 != r.r.h.2 then
  some ([(false, [.tr true (T.bool false)])], [(false, []), (false, [])])
 else
 bif l.r.2 != r.r.2 then
  some ([(false, [.tr true (T.bool false)])], [(false, []), (false, [])])
 else
 bif l.r.3 != r.r.3 then
  some ([(false, [.tr true (T.bool false)])], [(false, []), (false, [])])
 else
 gd (dom ok2_LB ea2_LB [(0, false, [C.tr false (eL 1 rowB l.4)]), (0, false, [C.tr false (eL 1 rowB r.4)])]) <|
 bif !f_eqLB (inv ok2_LB ea2_LB [(0, false, [C.tr false (eL 1 rowB l.4)]), (0, false, [C.tr false (eL 1 rowB r.4)])]) then
  some ([(false, [.tr true (T.bool false)])], [(false, []), (false, [])])
 else
 bif l.5 != r.5 then
  some ([(false, [.tr true (T.bool false)])], [(false, []), (false, [])])
 else
 bif l.6 != r.6 then
  some ([(false, [.tr true (T.bool false)])], [(false, []), (false, [])])
 else
 bif l.7 != r.7 then
  some ([(false, [.tr true (T.bool false)])], [(false, []), (false, [])])
 else
 some ([(false, [.tr true (T.bool true)])], [(false, []), (false, [])])) := by kernel_rfl
theorem body_EqAn (l : An) (r : An) (n : Nat) (h : ok_EqAn (l, r)) : body prog (tabS [(i_eqHd, e_eqHd), (i_eqRf, e_eqRf), (i_eqLB, e_eqLB)]) kp_EqAn n F_EqAn (ea_EqAn (l, r)) = some (erB 2 (f_EqAn (l, r))) := by
  have h0 : okq_LB l.b := h
  unfold ea_EqAn f_EqAn
  try dsimp only
  rw [pre_EqAn]
  simp only [lt_d, ge0_d, Int.toNat_natCast, blt_d, ble_self, beq_self, decide_true, cond_true, Bool.and_self, Bool.and_true, Bool.true_and, gd_true, Nat.zero_add, List.getD_cons_zero, List.getD_cons_succ, isI_int, toI_int, isB_bool, toB_bool, eL_T, arr_ln, arr_fn, arr_wd, arr_is, arr_get, An.cs, int_ne, bool_ne, bool_eq, dm_eqLB h0, iv_eqLB h0, d_eqLB, chain]
  have hxy : (l.code = r.code ∧ l.h.slot = r.h.slot ∧ l.h.gen = r.h.gen ∧ l.r.h.slot = r.r.h.slot ∧ l.r.h.gen = r.r.h.gen ∧ l.r.ep = r.r.ep ∧ l.r.no = r.r.no ∧ l.b = r.b ∧ l.walk = r.walk ∧ l.tax = r.tax ∧ l.drain = r.drain) ↔ l = r := by
    rcases l with ⟨x0, ⟨x1, x2⟩, ⟨⟨x3, x4⟩, x5, x6⟩, x7, x8, x9, x10⟩
    rcases r with ⟨y0, ⟨y1, y2⟩, ⟨⟨y3, y4⟩, y5, y6⟩, y7, y8, y9, y10⟩
    simp [and_assoc]
  simp only [hxy]
  by_cases e : l = r
  · simp only [e, decide_true, Bool.not_true, cond_false]
    rfl
  · simp only [e, decide_false, Bool.not_false, cond_true]
    rfl
theorem s_EqAn : EntOk prog i_EqAn e_EqAn := ent_ok ea_EqAn_inj fun x hx =>
  body_sound (φ := (tabS [(i_eqHd, e_eqHd), (i_eqRf, e_eqRf), (i_eqLB, e_eqLB)])) (tabS_cons s_eqHd (tabS_cons s_eqRf (tabS_cons s_eqLB tabS_nil))) mixed (kp := kp_EqAn) (n := 0) func19 (c := bodyOf F_EqAn) (by kernel_rfl) (body_EqAn x.1 x.2 (0) hx) (name_ok (by kernel_rfl))
end Go.Mach.F