/- Worlds: the laws' copies and comparisons. Conditions: none. -/
import Derived.Test.YtkbhcdenfigpoaaHk
import Derived.Test.YtkbhcdenfigpoaaFd
set_option linter.all false
namespace Go.Mach.F
open Go Go.Mach Go.Proofs.Try
--=set_option maxRecDepth 100000
theorem Pl.cs_inj (x y : Pl) (h : ∀ k, x.cs.getD k .hole = y.cs.getD k .hole) : x = y := by
  have h0 := h 0; have h1 := h 1; have h2 := h 2
  rcases x with ⟨x0, x1, x2⟩
  rcases y with ⟨y0, y1, y2⟩
  simp only [Pl.cs, List.getD_cons_zero, List.getD_cons_succ, T.int.injEq, T.bool.injEq, true_and] at h0 h1 h2
  replace h0 := eB_inj h0
  replace h1 := eI_inj h1
  replace h2 := eI_inj h2
  subst h0; subst h1; subst h2
  rfl
theorem Pl.cs_ext {x y : Pl} (h : x.cs = y.cs) : x = y := Pl.cs_inj x y fun k => by rw [h]
theorem Wd.cs_inj (x y : Wd) (h : ∀ k, x.cs.getD k .hole = y.cs.getD k .hole) : x = y := by
  have h0 := h 0; have h1 := h 1; have h2 := h 2; have h3 := h 3; have h4 := h 4; have h5 := h 5; have h6 := h 6; have h7 := h 7; have h8 := h 8; have h9 := h 9; have h10 := h 10; have h11 := h 11
  rcases x with ⟨⟨x0, x1, x2, x3, x4, x5⟩, ⟨x6, x7, x8⟩, x9, x10, x11⟩
  rcases y with ⟨⟨y0, y1, y2, y3, y4, y5⟩, ⟨y6, y7, y8⟩, y9, y10, y11⟩
  simp only [Wd.cs, List.getD_cons_zero, List.getD_cons_succ, T.int.injEq, T.bool.injEq, true_and] at h0 h1 h2 h3 h4 h5 h6 h7 h8 h9 h10 h11
  replace h6 := eB_inj h6
  replace h7 := eI_inj h7
  replace h8 := eI_inj h8
  replace h9 := eL_inj Nd.cs_inj h9
  replace h10 := eL_inj Ws.cs_inj h10
  replace h11 := eI_inj h11
  subst h0; subst h1; subst h2; subst h3; subst h4; subst h5; subst h6; subst h7; subst h8; subst h9; subst h10; subst h11
  rfl
theorem Wd.cs_ext {x y : Wd} (h : x.cs = y.cs) : x = y := Wd.cs_inj x y fun k => by rw [h]
def i_toPl : Nat := 65
noncomputable abbrev F_toPl : Func := f65
def kp_toPl : List (Nat × List Nat) := [(0, [4, 5, 8, 9, 12, 13, 64]), (1, [4, 5, 8, 9, 12, 13, 64]), (2, [4, 5, 8, 9, 12, 13, 64]), (3, [4, 5, 8, 9, 12, 13, 64]), (4, [8, 9, 12, 13, 64]), (5, [8, 9, 12, 13, 64])]
noncomputable def e_toPl : Ent := inl [] prog (tabS [(i_toLB, e_toLB), (i_toLI, e_toLI)]) kp_toPl 0 F_toPl
theorem s_toPl : EntOk prog i_toPl e_toPl := inl_ok (tabS_cons s_toLB (tabS_cons s_toLI tabS_nil)) mixed (c := bodyOf F_toPl) func65 (by kernel_rfl) (name_ok (by kernel_rfl))
def i_eqPl : Nat := 70
noncomputable abbrev F_eqPl : Func := f70
def kp_eqPl : List (Nat × List Nat) := [(0, [8, 9, 12, 13]), (1, [8, 9, 12, 13, 40]), (2, [16]), (3, [8, 9, 12, 13, 64]), (4, [16]), (5, [88]), (6, [16]), (7, [16])]
noncomputable def e_eqPl : Ent := inl [] prog (tabS [(i_eqLB, e_eqLB), (i_eqLI, e_eqLI)]) kp_eqPl 0 F_eqPl
theorem s_eqPl : EntOk prog i_eqPl e_eqPl := inl_ok (tabS_cons s_eqLB (tabS_cons s_eqLI tabS_nil)) mixed (c := bodyOf F_eqPl) func70 (by kernel_rfl) (name_ok (by kernel_rfl))
def i_szPl : Nat := 60
noncomputable abbrev F_szPl : Func := f60
def kp_szPl : List (Nat × List Nat) := [(0, [4, 8, 9]), (1, [4, 8, 9]), (2, [4, 8, 9, 40]), (3, [16]), (4, [4, 8, 9]), (5, [4, 8, 9, 64]), (6, [16]), (7, [4]), (8, [4, 88]), (9, [16]), (10, [16])]
noncomputable def e_szPl : Ent := inl [] prog (tabS [(i_szLB, e_szLB), (i_szLI, e_szLI)]) kp_szPl 0 F_szPl
theorem s_szPl : EntOk prog i_szPl e_szPl := inl_ok (tabS_cons s_szLB (tabS_cons s_szLI tabS_nil)) mixed (c := bodyOf F_szPl) func60 (by kernel_rfl) (name_ok (by kernel_rfl))
def i_toWd : Nat := 17
noncomputable abbrev F_toWd : Func := f17
def kp_toWd : List (Nat × List Nat) := [(0, [4, 5, 8, 9, 12, 13, 96]), (1, [4, 5, 8, 9, 12, 13, 96]), (2, [4, 5, 8, 9, 12, 13, 96]), (3, [4, 5, 8, 9, 12, 13, 96]), (4, [4, 5, 8, 9, 12, 13, 96]), (5, [4, 5, 8, 9, 12, 13, 96]), (6, [8, 9, 12, 13, 96]), (7, [8, 9, 12, 13, 96])]
noncomputable def e_toWd : Ent := inl [] prog (tabS [(i_toCf, e_toCf), (i_toPl, e_toPl), (i_toNdS, e_toNdS), (i_toWsS, e_toWsS), (i_toLI, e_toLI)]) kp_toWd 0 F_toWd
theorem s_toWd : EntOk prog i_toWd e_toWd := inl_ok (tabS_cons s_toCf (tabS_cons s_toPl (tabS_cons s_toNdS (tabS_cons s_toWsS (tabS_cons s_toLI tabS_nil))))) mixed (c := bodyOf F_toWd) func17 (by kernel_rfl) (name_ok (by kernel_rfl))
def i_eqWd : Nat := 19
noncomputable abbrev F_eqWd : Func := f19
def kp_eqWd : List (Nat × List Nat) := [(0, [8, 9, 12, 13]), (1, [8, 9, 12, 13, 40]), (2, [16]), (3, [8, 9, 12, 13, 64]), (4, [16]), (5, [8, 9, 12, 13, 88]), (6, [16]), (7, [8, 9, 12, 13, 112]), (8, [16]), (9, [136]), (10, [16]), (11, [16])]
noncomputable def e_eqWd : Ent := inl [] prog (tabS [(i_eqCf, e_eqCf), (i_eqPl, e_eqPl), (i_eqNdS, e_eqNdS), (i_eqWsS, e_eqWsS), (i_eqLI, e_eqLI)]) kp_eqWd 0 F_eqWd
theorem s_eqWd : EntOk prog i_eqWd e_eqWd := inl_ok (tabS_cons s_eqCf (tabS_cons s_eqPl (tabS_cons s_eqNdS (tabS_cons s_eqWsS (tabS_cons s_eqLI tabS_nil))))) mixed (c := bodyOf F_eqWd) func19 (by kernel_rfl) (name_ok (by kernel_rfl))
def i_szWd : Nat := 15
noncomputable abbrev F_szWd : Func := f15
def kp_szWd : List (Nat × List Nat) := [(0, [4, 8, 9]), (1, [4, 8, 9]), (2, [4, 8, 9, 40]), (3, [16]), (4, [4, 8, 9]), (5, [4, 8, 9, 64]), (6, [16]), (7, [4, 8, 9]), (8, [4, 8, 9, 88]), (9, [16]), (10, [4]), (11, [4, 112]), (12, [16]), (13, [16])]
noncomputable def e_szWd : Ent := inl [] prog (tabS [(i_szPl, e_szPl), (i_szNdS, e_szNdS), (i_szWsS, e_szWsS), (i_szLI, e_szLI)]) kp_szWd 0 F_szWd
theorem s_szWd : EntOk prog i_szWd e_szWd := inl_ok (tabS_cons s_szPl (tabS_cons s_szNdS (tabS_cons s_szWsS (tabS_cons s_szLI tabS_nil)))) mixed (c := bodyOf F_szWd) func15 (by kernel_rfl) (name_ok (by kernel_rfl))
abbrev shTh : List Sh := [.int .i64, .int .i64, .int .i64]
def z_Th (x : Th) : Prop := True
theorem sh_Th {ts : List T} (hh : ShTs ts shTh) : ∃ x : Th, ts = x.cs ∧ z_Th x := by
  obtain ⟨t0, ts, rfl, h0, hh⟩ := shs_cons hh
  obtain ⟨t1, ts, rfl, h1, hh⟩ := shs_cons hh
  obtain ⟨t2, ts, rfl, h2, hh⟩ := shs_cons hh
  obtain rfl := shs_nil hh
  obtain ⟨x0, rfl, _⟩ := sh_int h0
  obtain ⟨x1, rfl, _⟩ := sh_int h1
  obtain ⟨x2, rfl, _⟩ := sh_int h2
  exact ⟨⟨x0, x1, x2⟩, rfl, trivial⟩
theorem sh_ThS {t : T} (h : ShT t (.arr shTh)) : ∃ l : List Th, t = eL 3 Th.cs l ∧ l.length ≤ ZM ∧ ∀ x ∈ l, z_Th x := sh_list z_Th (fun _ => rfl) (fun _ hts => sh_Th hts) h
abbrev shNd : List Sh := [.int .i64, .int .i64, .int .i64, .int .i64, .int .i64, .int .i64, .int .i64, .int .i64, .arr [.int .i64], .int .i64, .int .i64, .arr shTh, .arr [.int .i64]]
def z_Nd (x : Nd) : Prop := okz_LI x.chunks ∧ okz_ThS x.things ∧ okz_LI x.tags
theorem sh_Nd {ts : List T} (hh : ShTs ts shNd) : ∃ x : Nd, ts = x.cs ∧ z_Nd x := by
  obtain ⟨t0, ts, rfl, h0, hh⟩ := shs_cons hh
  obtain ⟨t1, ts, rfl, h1, hh⟩ := shs_cons hh
  obtain ⟨t2, ts, rfl, h2, hh⟩ := shs_cons hh
  obtain ⟨t3, ts, rfl, h3, hh⟩ := shs_cons hh
  obtain ⟨t4, ts, rfl, h4, hh⟩ := shs_cons hh
  obtain ⟨t5, ts, rfl, h5, hh⟩ := shs_cons hh
  obtain ⟨t6, ts, rfl, h6, hh⟩ := shs_cons hh
  obtain ⟨t7, ts, rfl, h7, hh⟩ := shs_cons hh
  obtain ⟨t8, ts, rfl, h8, hh⟩ := shs_cons hh
  obtain ⟨t9, ts, rfl, h9, hh⟩ := shs_cons hh
  obtain ⟨t10, ts, rfl, h10, hh⟩ := shs_cons hh
  obtain ⟨t11, ts, rfl, h11, hh⟩ := shs_cons hh
  obtain ⟨t12, ts, rfl, h12, hh⟩ := shs_cons hh
  obtain rfl := shs_nil hh
  obtain ⟨x0, rfl, _⟩ := sh_int h0
  obtain ⟨x1, rfl, _⟩ := sh_int h1
  obtain ⟨x2, rfl, _⟩ := sh_int h2
  obtain ⟨x3, rfl, _⟩ := sh_int h3
  obtain ⟨x4, rfl, _⟩ := sh_int h4
  obtain ⟨x5, rfl, _⟩ := sh_int h5
  obtain ⟨x6, rfl, _⟩ := sh_int h6
  obtain ⟨x7, rfl, _⟩ := sh_int h7
  obtain ⟨x8, rfl, z8⟩ := sh_LI h8
  obtain ⟨x9, rfl, _⟩ := sh_int h9
  obtain ⟨x10, rfl, _⟩ := sh_int h10
  obtain ⟨x11, rfl, z11, _⟩ := sh_ThS h11
  obtain ⟨x12, rfl, z12⟩ := sh_LI h12
  exact ⟨⟨x0, x1, x2, x3, x4, x5, x6, x7, x8, x9, x10, x11, x12⟩, rfl, ⟨z8, z11, z12⟩⟩
theorem sh_NdS {t : T} (h : ShT t (.arr shNd)) : ∃ l : List Nd, t = eL 13 Nd.cs l ∧ l.length ≤ ZM ∧ ∀ x ∈ l, z_Nd x := sh_list z_Nd (fun _ => rfl) (fun _ hts => sh_Nd hts) h
abbrev shWs : List Sh := [.int .i64, .int .i64, .arr [.int .i64], .arr [.int .i64], .int .i64]
def z_Ws (x : Ws) : Prop := okz_LI x.tags ∧ okz_LI x.chunks
theorem sh_Ws {ts : List T} (hh : ShTs ts shWs) : ∃ x : Ws, ts = x.cs ∧ z_Ws x := by
  obtain ⟨t0, ts, rfl, h0, hh⟩ := shs_cons hh
  obtain ⟨t1, ts, rfl, h1, hh⟩ := shs_cons hh
  obtain ⟨t2, ts, rfl, h2, hh⟩ := shs_cons hh
  obtain ⟨t3, ts, rfl, h3, hh⟩ := shs_cons hh
  obtain ⟨t4, ts, rfl, h4, hh⟩ := shs_cons hh
  obtain rfl := shs_nil hh
  obtain ⟨x0, rfl, _⟩ := sh_int h0
  obtain ⟨x1, rfl, _⟩ := sh_int h1
  obtain ⟨x2, rfl, z2⟩ := sh_LI h2
  obtain ⟨x3, rfl, z3⟩ := sh_LI h3
  obtain ⟨x4, rfl, _⟩ := sh_int h4
  exact ⟨⟨x0, x1, x2, x3, x4⟩, rfl, ⟨z2, z3⟩⟩
theorem sh_WsS {t : T} (h : ShT t (.arr shWs)) : ∃ l : List Ws, t = eL 5 Ws.cs l ∧ l.length ≤ ZM ∧ ∀ x ∈ l, z_Ws x := sh_list z_Ws (fun _ => rfl) (fun _ hts => sh_Ws hts) h
abbrev shPl : List Sh := [.arr [.int .u8], .arr [.int .i64], .arr [.int .i64]]
def z_Pl (x : Pl) : Prop := okz_LB x.mem ∧ okz_LI x.st ∧ okz_LI x.own
theorem sh_Pl {ts : List T} (hh : ShTs ts shPl) : ∃ x : Pl, ts = x.cs ∧ z_Pl x := by
  obtain ⟨t0, ts, rfl, h0, hh⟩ := shs_cons hh
  obtain ⟨t1, ts, rfl, h1, hh⟩ := shs_cons hh
  obtain ⟨t2, ts, rfl, h2, hh⟩ := shs_cons hh
  obtain rfl := shs_nil hh
  obtain ⟨x0, rfl, z0⟩ := sh_LB h0
  obtain ⟨x1, rfl, z1⟩ := sh_LI h1
  obtain ⟨x2, rfl, z2⟩ := sh_LI h2
  exact ⟨⟨x0, x1, x2⟩, rfl, ⟨z0, z1, z2⟩⟩
abbrev shWd : List Sh := [.int .i64, .int .i64, .int .i64, .int .i64, .int .i64, .int .i64, .arr [.int .u8], .arr [.int .i64], .arr [.int .i64], .arr shNd, .arr shWs, .arr [.int .i64]]
def z_Wd (x : Wd) : Prop := okz_LB x.p.mem ∧ okz_LI x.p.st ∧ okz_LI x.p.own ∧ okz_NdS x.l ∧ okz_WsS x.q ∧ okz_LI x.log
theorem sh_Wd {ts : List T} (hh : ShTs ts shWd) : ∃ x : Wd, ts = x.cs ∧ z_Wd x := by
  obtain ⟨t0, ts, rfl, h0, hh⟩ := shs_cons hh
  obtain ⟨t1, ts, rfl, h1, hh⟩ := shs_cons hh
  obtain ⟨t2, ts, rfl, h2, hh⟩ := shs_cons hh
  obtain ⟨t3, ts, rfl, h3, hh⟩ := shs_cons hh
  obtain ⟨t4, ts, rfl, h4, hh⟩ := shs_cons hh
  obtain ⟨t5, ts, rfl, h5, hh⟩ := shs_cons hh
  obtain ⟨t6, ts, rfl, h6, hh⟩ := shs_cons hh
  obtain ⟨t7, ts, rfl, h7, hh⟩ := shs_cons hh
  obtain ⟨t8, ts, rfl, h8, hh⟩ := shs_cons hh
  obtain ⟨t9, ts, rfl, h9, hh⟩ := shs_cons hh
  obtain ⟨t10, ts, rfl, h10, hh⟩ := shs_cons hh
  obtain ⟨t11, ts, rfl, h11, hh⟩ := shs_cons hh
  obtain rfl := shs_nil hh
  obtain ⟨x0, rfl, _⟩ := sh_int h0
  obtain ⟨x1, rfl, _⟩ := sh_int h1
  obtain ⟨x2, rfl, _⟩ := sh_int h2
  obtain ⟨x3, rfl, _⟩ := sh_int h3
  obtain ⟨x4, rfl, _⟩ := sh_int h4
  obtain ⟨x5, rfl, _⟩ := sh_int h5
  obtain ⟨x6, rfl, z6⟩ := sh_LB h6
  obtain ⟨x7, rfl, z7⟩ := sh_LI h7
  obtain ⟨x8, rfl, z8⟩ := sh_LI h8
  obtain ⟨x9, rfl, z9, y9⟩ := sh_NdS h9
  obtain ⟨x10, rfl, z10, y10⟩ := sh_WsS h10
  obtain ⟨x11, rfl, z11⟩ := sh_LI h11
  exact ⟨⟨⟨x0, x1, x2, x3, x4, x5⟩, ⟨x6, x7, x8⟩, x9, x10, x11⟩, rfl, ⟨z6, z7, z8, ⟨z9, y9⟩, ⟨z10, y10⟩, z11⟩⟩
def ok_EqWd (x : Wd × Wd) : Prop := okq_LB x.1.p.mem ∧ okq_LI x.1.p.st ∧ okq_LI x.1.p.own ∧ okq_NdS x.1.l ∧ okq_WsS x.1.q ∧ okq_LI x.1.log
def ea_EqWd (x : Wd × Wd) : List Arg := [aR x.1.cs, aR x.2.cs]
def f_EqWd (x : Wd × Wd) : Bool := decide (x.1 = x.2)
noncomputable def e_EqWd : Ent := ent [] ok_EqWd ea_EqWd (erB 2) f_EqWd
theorem ea_EqWd_inj (x y : Wd × Wd) (h : ea_EqWd x = ea_EqWd y) : x = y := by
  obtain ⟨l1, r1⟩ := x
  obtain ⟨l2, r2⟩ := y
  simp only [ea_EqWd, List.cons.injEq, and_true, true_and] at h
  obtain ⟨e0, e1⟩ := h
  obtain rfl := Wd.cs_ext (aR_inj e0)
  obtain rfl := Wd.cs_ext (aR_inj e1)
  rfl
theorem dm_EqWd {l : Wd} {r : Wd} (h : ok_EqWd (l, r)) : dom ok_EqWd ea_EqWd [(0, true, [C.tr false (T.int IntKind.i64 l.c.chunks), C.tr false (T.int IntKind.i64 l.c.size), C.tr false (T.int IntKind.i64 l.c.slots), C.tr false (T.int IntKind.i64 l.c.tax), C.tr false (T.int IntKind.i64 l.c.slice), C.tr false (T.int IntKind.i64 l.c.gens), C.tr false (T.arr 1 l.p.mem.length (atL rowB l.p.mem)), C.tr false (T.arr 1 l.p.st.length (atL rowI l.p.st)), C.tr false (T.arr 1 l.p.own.length (atL rowI l.p.own)), C.tr false (T.arr 13 l.l.length (atL Nd.cs l.l)), C.tr false (T.arr 5 l.q.length (atL Ws.cs l.q)), C.tr false (T.arr 1 l.log.length (atL rowI l.log))]), (0, true, [C.tr false (T.int IntKind.i64 r.c.chunks), C.tr false (T.int IntKind.i64 r.c.size), C.tr false (T.int IntKind.i64 r.c.slots), C.tr false (T.int IntKind.i64 r.c.tax), C.tr false (T.int IntKind.i64 r.c.slice), C.tr false (T.int IntKind.i64 r.c.gens), C.tr false (T.arr 1 r.p.mem.length (atL rowB r.p.mem)), C.tr false (T.arr 1 r.p.st.length (atL rowI r.p.st)), C.tr false (T.arr 1 r.p.own.length (atL rowI r.p.own)), C.tr false (T.arr 13 r.l.length (atL Nd.cs r.l)), C.tr false (T.arr 5 r.q.length (atL Ws.cs r.q)), C.tr false (T.arr 1 r.log.length (atL rowI r.log))])] = true := dom_ea (ea := ea_EqWd) (x := (l, r)) h
theorem iv_EqWd {l : Wd} {r : Wd} (h : ok_EqWd (l, r)) : inv ok_EqWd ea_EqWd [(0, true, [C.tr false (T.int IntKind.i64 l.c.chunks), C.tr false (T.int IntKind.i64 l.c.size), C.tr false (T.int IntKind.i64 l.c.slots), C.tr false (T.int IntKind.i64 l.c.tax), C.tr false (T.int IntKind.i64 l.c.slice), C.tr false (T.int IntKind.i64 l.c.gens), C.tr false (T.arr 1 l.p.mem.length (atL rowB l.p.mem)), C.tr false (T.arr 1 l.p.st.length (atL rowI l.p.st)), C.tr false (T.arr 1 l.p.own.length (atL rowI l.p.own)), C.tr false (T.arr 13 l.l.length (atL Nd.cs l.l)), C.tr false (T.arr 5 l.q.length (atL Ws.cs l.q)), C.tr false (T.arr 1 l.log.length (atL rowI l.log))]), (0, true, [C.tr false (T.int IntKind.i64 r.c.chunks), C.tr false (T.int IntKind.i64 r.c.size), C.tr false (T.int IntKind.i64 r.c.slots), C.tr false (T.int IntKind.i64 r.c.tax), C.tr false (T.int IntKind.i64 r.c.slice), C.tr false (T.int IntKind.i64 r.c.gens), C.tr false (T.arr 1 r.p.mem.length (atL rowB r.p.mem)), C.tr false (T.arr 1 r.p.st.length (atL rowI r.p.st)), C.tr false (T.arr 1 r.p.own.length (atL rowI r.p.own)), C.tr false (T.arr 13 r.l.length (atL Nd.cs r.l)), C.tr false (T.arr 5 r.q.length (atL Ws.cs r.q)), C.tr false (T.arr 1 r.log.length (atL rowI r.log))])] = (l, r) := inv_ea ea_EqWd_inj (x := (l, r)) h
theorem d_EqWd (l : Wd) (r : Wd) : f_EqWd (l, r) = decide (l = r) := rfl
def i_EqWd : Nat := 19
noncomputable abbrev F_EqWd : Func := f19
def kp_EqWd : List (Nat × List Nat) := [(0, [8, 9, 12, 13]), (1, [8, 9, 12, 13, 40]), (2, [16]), (3, [8, 9, 12, 13, 64]), (4, [16]), (5, [8, 9, 12, 13, 88]), (6, [16]), (7, [8, 9, 12, 13, 112]), (8, [16]), (9, [136]), (10, [16]), (11, [16])]
def ts_EqWd : List Nat := [0, 0]
theorem pre_EqWd (l : Wd) (r : Wd) (n : Nat) : body prog (tabS [(i_eqCf, e_eqCf), (i_eqPl, e_eqPl), (i_eqNdS, e_eqNdS), (i_eqWsS, e_eqWsS), (i_eqLI, e_eqLI)]) kp_EqWd n F_EqWd [aR l.cs, aR r.cs] = (
 bif l.c.1 != r.c.1 then
  some ([(false, [.tr true (T.bool false)])], [(false, []), (false, [])])
 else
 bif l.c.2 != r.c.2 then
  some ([(false, [.tr true (T.bool false)])], [(false, []), (false, [])])
 else
 bif l.c.3 != r.c.3 then
  some ([(false, [.tr true (T.bool false)])], [(false, []), (false, [])])
 else
 bif l.c.4 != r.c.4 then
  some ([(false, [.tr true (T.bool false)])], [(false, []), (false, [])])
 else
 bif l.c.5 != r.c.5 then
  some ([(false, [.tr true (T.bool false)])], [(false, []), (false, [])])
 else
 bif l.c.6 != r.c.6 then
  some ([(false, [.tr true (T.bool false)])], [(false, []), (false, [])])
 else
 gd (dom ok2_LB ea2_LB [(0, false, [C.tr false (eL 1 rowB l.p.1)]), (0, false, [C.tr false (eL 1 rowB r.p.1)])]) <|
 bif !f_eqLB (inv ok2_LB ea2_LB [(0, false, [C.tr false (eL 1 rowB l.p.1)]), (0, false, [C.tr false (eL 1 rowB r.p.1)])]) then
  some ([(false, [.tr true (T.bool false)])], [(false, []), (false, [])])
 else
 gd (dom ok2_LI ea2_LI [(0, false, [C.tr false (eL 1 rowI l.p.2)]), (0, false, [C.tr false (eL 1 rowI r.p.2)])]) <|
 bif !f_eqLI (inv ok2_LI ea2_LI [(0, false, [C.tr false (eL 1 rowI l.p.2)]), (0, false, [C.tr false (eL 1 rowI r.p.2)])]) then
  some ([(false, [.tr true (T.bool false)])], [(false, []), (false, [])])
 else
 gd (dom ok2_LI ea2_LI [(0, false, [C.tr false (eL 1 rowI l.p.3)]), (0, false, [C.tr false (eL 1 rowI r.p.3)])]) <|
 bif !f_eqLI (inv ok2_LI ea2_LI [(0, false, [C.tr false (eL 1 rowI l.p.3)]), (0, false, [C.tr false (eL 1 rowI r.p.3)])]) then
  some ([(false, [.tr true (T.bool false)])], [(false, []), (false, [])])
 else
 gd (dom ok2_NdS ea2_NdS [(0, false, [C.tr false (eL 13 Nd.cs l.3)]), (0, false, [C.tr false (eL 13 Nd.cs r.3)])]) <|
 bif !f_eqNdS
    (inv ok2_NdS ea2_NdS [(0, false, [C.tr false (eL 13 Nd.cs l.3)]), (0, false, [C.tr false (eL 13 Nd.cs r.3)])]) then
  some ([(false, [.tr true (T.bool false)])], [(false, []), (false, [])])
 else
 gd (dom ok2_WsS ea2_WsS [(0, false, [C.tr false (eL 5 Ws.cs l.4)]), (0, false, [C.tr false (eL 5 Ws.cs r.4)])]) <|
 bif !f_eqWsS (inv ok2_WsS ea2_WsS [(0, false, [C.tr false (eL 5 Ws.cs l.4)]), (0, false, [C.tr false (eL 5 Ws.cs r.4)])]) then
  some ([(false, [.tr true (T.bool false)])], [(false, []), (false, [])])
 else
 gd (dom ok2_LI ea2_LI [(0, false, [C.tr false (eL 1 rowI l.5)]), (0, false, [C.tr false (eL 1 rowI r.5)])]) <|
 bif !f_eqLI (inv ok2_LI ea2_LI [(0, false, [C.tr false (eL 1 rowI l.5)]), (0, false, [C.tr false (eL 1 rowI r.5)])]) then
  some ([(false, [.tr true (T.bool false)])], [(false, []), (false, [])])
 else
 some ([(false, [.tr true (T.bool true)])], [(false, []), (false, [])])) := by kernel_rfl
theorem body_EqWd (l : Wd) (r : Wd) (n : Nat) (h : ok_EqWd (l, r)) : body prog (tabS [(i_eqCf, e_eqCf), (i_eqPl, e_eqPl), (i_eqNdS, e_eqNdS), (i_eqWsS, e_eqWsS), (i_eqLI, e_eqLI)]) kp_EqWd n F_EqWd (ea_EqWd (l, r)) = some (erB 2 (f_EqWd (l, r))) := by
  have h0 : okq_LB l.p.mem := h.1
  have h1 : okq_LI l.p.st := h.2.1
  have h2 : okq_LI l.p.own := h.2.2.1
  have h3 : okq_NdS l.l := h.2.2.2.1
  have h4 : okq_WsS l.q := h.2.2.2.2.1
  have h5 : okq_LI l.log := h.2.2.2.2.2
  unfold ea_EqWd f_EqWd
  try dsimp only
  rw [pre_EqWd]
  simp only [lt_d, ge0_d, Int.toNat_natCast, blt_d, ble_self, beq_self, decide_true, cond_true, Bool.and_self, Bool.and_true, Bool.true_and, gd_true, Nat.zero_add, List.getD_cons_zero, List.getD_cons_succ, isI_int, toI_int, isB_bool, toB_bool, eL_T, arr_ln, arr_fn, arr_wd, arr_is, arr_get, Wd.cs, int_ne, bool_ne, bool_eq, dm_eqLB h0, iv_eqLB h0, d_eqLB, dm_eqLI h1, iv_eqLI h1, d_eqLI, dm_eqLI h2, iv_eqLI h2, d_eqLI, dm_eqNdS h3, iv_eqNdS h3, d_eqNdS, dm_eqWsS h4, iv_eqWsS h4, d_eqWsS, dm_eqLI h5, iv_eqLI h5, d_eqLI, chain]
  have hxy : (l.c.chunks = r.c.chunks ∧ l.c.size = r.c.size ∧ l.c.slots = r.c.slots ∧ l.c.tax = r.c.tax ∧ l.c.slice = r.c.slice ∧ l.c.gens = r.c.gens ∧ l.p.mem = r.p.mem ∧ l.p.st = r.p.st ∧ l.p.own = r.p.own ∧ l.l = r.l ∧ l.q = r.q ∧ l.log = r.log) ↔ l = r := by
    rcases l with ⟨⟨x0, x1, x2, x3, x4, x5⟩, ⟨x6, x7, x8⟩, x9, x10, x11⟩
    rcases r with ⟨⟨y0, y1, y2, y3, y4, y5⟩, ⟨y6, y7, y8⟩, y9, y10, y11⟩
    simp [and_assoc]
  simp only [hxy]
  by_cases e : l = r
  · simp only [e, decide_true, Bool.not_true, cond_false]
    rfl
  · simp only [e, decide_false, Bool.not_false, cond_true]
    rfl
theorem s_EqWd : EntOk prog i_EqWd e_EqWd := ent_ok ea_EqWd_inj fun x hx =>
  body_sound (φ := (tabS [(i_eqCf, e_eqCf), (i_eqPl, e_eqPl), (i_eqNdS, e_eqNdS), (i_eqWsS, e_eqWsS), (i_eqLI, e_eqLI)])) (tabS_cons s_eqCf (tabS_cons s_eqPl (tabS_cons s_eqNdS (tabS_cons s_eqWsS (tabS_cons s_eqLI tabS_nil))))) mixed (kp := kp_EqWd) (n := 0) func19 (c := bodyOf F_EqWd) (by kernel_rfl) (body_EqWd x.1 x.2 (0) hx) (name_ok (by kernel_rfl))
theorem okn_ThS {l : List Th} (h : (n_ThS l : Int) ≤ 1048576) : ok_ThS l ∧ okq_ThS l := by
  have := lm
  have := bm
  unfold n_ThS at h
  exact ⟨⟨by omega, fun _ _ => trivial⟩, ⟨by omega, fun _ _ => trivial⟩⟩
theorem okn_NdS {l : List Nd} (h : (n_NdS l : Int) ≤ 1048576) : ok_NdS l ∧ okq_NdS l := by
  have := lm
  have := bm
  have e : n_NdS l = l.length + cntL n1_NdS l := rfl
  exact ⟨⟨by omega, fun x hx => ⟨(okn_LI (l := x.chunks) (by have := cntL_mem n1_NdS hx; have : n1_NdS x = n_LI x.chunks + n_ThS x.things + n_LI x.tags := rfl; omega)).1, (okn_ThS (l := x.things) (by have := cntL_mem n1_NdS hx; have : n1_NdS x = n_LI x.chunks + n_ThS x.things + n_LI x.tags := rfl; omega)).1, (okn_LI (l := x.tags) (by have := cntL_mem n1_NdS hx; have : n1_NdS x = n_LI x.chunks + n_ThS x.things + n_LI x.tags := rfl; omega)).1⟩⟩, ⟨by omega, fun x hx => ⟨(okn_LI (l := x.chunks) (by have := cntL_mem n1_NdS hx; have : n1_NdS x = n_LI x.chunks + n_ThS x.things + n_LI x.tags := rfl; omega)).2, (okn_ThS (l := x.things) (by have := cntL_mem n1_NdS hx; have : n1_NdS x = n_LI x.chunks + n_ThS x.things + n_LI x.tags := rfl; omega)).2, (okn_LI (l := x.tags) (by have := cntL_mem n1_NdS hx; have : n1_NdS x = n_LI x.chunks + n_ThS x.things + n_LI x.tags := rfl; omega)).2⟩⟩⟩
theorem okn_WsS {l : List Ws} (h : (n_WsS l : Int) ≤ 1048576) : ok_WsS l ∧ okq_WsS l := by
  have := lm
  have := bm
  have e : n_WsS l = l.length + cntL n1_WsS l := rfl
  exact ⟨⟨by omega, fun x hx => ⟨(okn_LI (l := x.tags) (by have := cntL_mem n1_WsS hx; have : n1_WsS x = n_LI x.tags + n_LI x.chunks := rfl; omega)).1, (okn_LI (l := x.chunks) (by have := cntL_mem n1_WsS hx; have : n1_WsS x = n_LI x.tags + n_LI x.chunks := rfl; omega)).1⟩⟩, ⟨by omega, fun x hx => ⟨(okn_LI (l := x.tags) (by have := cntL_mem n1_WsS hx; have : n1_WsS x = n_LI x.tags + n_LI x.chunks := rfl; omega)).2, (okn_LI (l := x.chunks) (by have := cntL_mem n1_WsS hx; have : n1_WsS x = n_LI x.tags + n_LI x.chunks := rfl; omega)).2⟩⟩⟩
end Go.Mach.F