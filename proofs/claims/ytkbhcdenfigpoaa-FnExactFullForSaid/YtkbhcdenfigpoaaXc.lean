/- Alive. Conditions: none. -/
import Derived.Test.YtkbhcdenfigpoaaXa
import Derived.Test.YtkbhcdenfigpoaaSe
set_option linter.all false
namespace Go.Mach.F
open Go Go.Mach Go.Proofs.Try
--=set_option maxRecDepth 100000
def nd (l : List Nd) (k : Int) : Nd := l.getD k.toNat default
def ri (r : List Int) (i : Nat) : Int := r.getD i 0
def upI (l : List Nd) : Prop := ∀ x ∈ l, inI x.up
def badI (l : List Nd) (r : List Int) (i : Nat) : Bool := !decide ((nd l (ri r i)).st = 1) || (decide (i + 1 < r.length) && !decide ((nd l (ri r i)).upEp = (nd l (ri r (i + 1))).ep))
def alvR (l : List Nd) (r : List Int) : Bool := bif (List.range r.length).any (badI l r) then false else decide (0 < r.length) && decide ((nd l (ri r (r.length - 1))).up = 0)
def alv (l : List Nd) (k : Int) : Bool := alvR l (riseN l l.length k)
theorem nd_get {l : List Nd} {k : Int} (h : k.toNat < l.length) : l[k.toNat]? = some (nd l k) := by
  unfold nd
  rw [List.getD_eq_getElem?_getD, List.getElem?_eq_getElem h]
  rfl
theorem nd_mem {l : List Nd} {k : Int} (h : k.toNat < l.length) : nd l k ∈ l := List.mem_of_getElem? (nd_get h)
theorem ri_get {r : List Int} {i : Nat} (h : i < r.length) : r[i]? = some (ri r i) := by
  unfold ri
  rw [List.getD_eq_getElem?_getD, List.getElem?_eq_getElem h]
  rfl
/-- The way up: slots, each the parent of the one ahead of it. -/
theorem riseN_ri {l : List Nd} : ∀ (n : Nat) (k : Int) (i : Nat), i < (riseN l n k).length → (0 ≤ ri (riseN l n k) i ∧ (ri (riseN l n k) i).toNat < l.length) ∧ (i + 1 < (riseN l n k).length → ri (riseN l n k) (i + 1) = IntKind.i64.wrap ((nd l (ri (riseN l n k) i)).up - 1))
  | 0, k, i, h => by simp [riseN] at h
  | n + 1, k, i, h => by
    by_cases h0 : 0 ≤ k ∧ k < l.length
    · have hb : k.toNat < l.length := by omega
      have e : riseN l (n + 1) k = k :: riseN l n (IntKind.i64.wrap ((nd l k).up - 1)) := by
        simp only [riseN, nd_get hb, decide_eq_true h0.1, cond_true]
      rw [e] at h ⊢
      cases i with
      | zero =>
        refine ⟨⟨h0.1, hb⟩, fun h1 => ?_⟩
        show ri (riseN l n (IntKind.i64.wrap ((nd l k).up - 1))) 0 = IntKind.i64.wrap ((nd l k).up - 1)
        cases n with
        | zero => simp [riseN] at h1
        | succ n =>
          by_cases h2 : 0 ≤ IntKind.i64.wrap ((nd l k).up - 1) ∧ IntKind.i64.wrap ((nd l k).up - 1) < l.length
          · have hb2 : (IntKind.i64.wrap ((nd l k).up - 1)).toNat < l.length := by omega
            simp only [riseN, nd_get hb2, decide_eq_true h2.1, cond_true]
            rfl
          · rw [riseN_out h2] at h1
            simp at h1
      | succ i =>
        have h' : i < (riseN l n (IntKind.i64.wrap ((nd l k).up - 1))).length := by simpa using h
        have := riseN_ri n (IntKind.i64.wrap ((nd l k).up - 1)) i h'
        exact ⟨this.1, fun h1 => this.2 (by simpa using h1)⟩
    · rw [riseN_out h0] at h
      simp at h
theorem riseN_len {l : List Nd} : ∀ (n : Nat) (k : Int), (riseN l n k).length ≤ n
  | 0, k => by simp [riseN]
  | n + 1, k => by
    unfold riseN
    cases l[k.toNat]? with
    | none => simp
    | some x =>
      cases decide (0 ≤ k) with
      | false => simp
      | true => simpa using riseN_len n _
section
variable {φ : Sems} {kp : List (Nat × List Nat)} {fn : Func} {p : List Nat} {n : Nat} {K : Ex → St → Res}
theorem forAny (N : Nat) (st : Nat → St) (e : St) (j : Nat) (bad : Nat → Bool) (ex : Ex) (hex : ex ≠ .normal) (eb : Nat → St) (v0 v1 : Res)
    (hr : ∀ i (K : Ex → St → Res), i < N → roundAt prog φ kp fn p n (st i) K = bif bad i then K ex (eb i) else K .normal (st (i + 1))) (he : ∀ K : Ex → St → Res, roundAt prog φ kp fn p n (st N) K = K (.exit j) e)
    (h0 : ∀ i, K ex (eb i) = v0) (h1 : K (.exit j) e = v1) :
    ∀ m, N + 1 ≤ m → loopAt prog φ kp fn p n m (st 0) K = bif (List.range N).any bad then v0 else v1 := by
  intro m hm
  rw [forExit N st e j bad ex hex eb hr he m hm]
  cases hf : (List.range N).find? bad with
  | some i =>
    have : (List.range N).any bad = true := by
      rw [List.any_eq_true]
      exact ⟨i, List.mem_of_find?_eq_some hf, List.find?_some hf⟩
    rw [this]
    exact h0 i
  | none =>
    have : (List.range N).any bad = false := by
      rw [List.any_eq_false]
      exact List.find?_eq_none.1 hf
    rw [this]
    exact h1
end
def i_l9In : Nat := 179
noncomputable abbrev F_l9In : Func := f179
def kp_l9In : List (Nat × List Nat) := [(0, [0, 4, 60, 64, 68, 72, 76, 80, 84, 96, 100, 104, 108, 112, 116, 120, 124, 128, 132, 136, 140]), (1, [0, 4, 20, 60, 64, 68, 72, 76, 80, 84, 96, 100, 104, 108, 112, 116, 120, 124, 128, 132, 136, 140]), (2, [16])]
noncomputable def e_l9In : Ent := inl [] prog (tabS [(i_l9Place, e_l9Place)]) kp_l9In 0 F_l9In
theorem s_l9In : EntOk prog i_l9In e_l9In := inl_ok (tabS_cons s_l9Place tabS_nil) mixed (c := bodyOf F_l9In) func179 (by kernel_rfl) (name_ok (by kernel_rfl))
def ok_iAlive (x : List Nd × Int) : Prop := x.1.length ≤ LM ∧ inI x.2 ∧ upI x.1
def ea_iAlive (x : List Nd × Int) : List Arg := [aT (eL 13 Nd.cs x.1), aI x.2]
def f_iAlive (x : List Nd × Int) : Bool := alv x.1 x.2
noncomputable def e_iAlive : Ent := ent [] ok_iAlive ea_iAlive (erB 2) f_iAlive
theorem ea_iAlive_inj (x y : List Nd × Int) (h : ea_iAlive x = ea_iAlive y) : x = y := by
  obtain ⟨l1, k1⟩ := x
  obtain ⟨l2, k2⟩ := y
  simp only [ea_iAlive, List.cons.injEq, and_true, true_and] at h
  obtain ⟨e0, e1⟩ := h
  obtain rfl := eL_inj Nd.cs_inj (aT_inj e0)
  obtain rfl := aI_inj e1
  rfl
theorem dm_iAlive {l : List Nd} {k : Int} (h : ok_iAlive (l, k)) : dom ok_iAlive ea_iAlive [(0, false, [C.tr false (T.arr 13 l.length (atL Nd.cs l))]), (0, false, [C.tr false (T.int IntKind.i64 k)])] = true := dom_ea (ea := ea_iAlive) (x := (l, k)) h
theorem iv_iAlive {l : List Nd} {k : Int} (h : ok_iAlive (l, k)) : inv ok_iAlive ea_iAlive [(0, false, [C.tr false (T.arr 13 l.length (atL Nd.cs l))]), (0, false, [C.tr false (T.int IntKind.i64 k)])] = (l, k) := inv_ea ea_iAlive_inj (x := (l, k)) h
theorem d_iAlive (l : List Nd) (k : Int) : f_iAlive (l, k) = alv l k := rfl
def i_iAlive : Nat := 151
noncomputable abbrev F_iAlive : Func := f151
def kp_iAlive : List (Nat × List Nat) := [(0, [0, 4]), (1, [0, 20]), (2, [0, 20, 44, 48, 52]), (3, [0, 20, 44, 48, 52, 56, 120, 124, 128, 132, 136, 140, 144, 148, 152, 156, 160, 164, 168, 172, 176, 204, 208, 212, 216, 220, 224, 228, 232, 236, 240, 244]), (4, [0, 20, 24, 28, 44, 48, 52, 120, 124, 128, 132, 136, 140, 144, 148, 152, 156, 160, 164, 168, 172, 176]), (5, [0, 20, 24, 28, 44, 48, 52, 92, 120, 124, 128, 132, 136, 140, 144, 148, 152, 156, 160, 164, 168, 172, 176]), (6, [16]), (7, [0, 20, 44, 48, 52, 180]), (8, [16]), (9, [0, 20, 44, 48, 52]), (10, [16])]
def ts_iAlive : List Nat := [0, 0]
def st_iAlive_1 (l : List Nd) (k : Int) (r1 : List Int) (x52 : Int) : St := [(0, ⟨z0, [(false, [.tr false (eL 13 Nd.cs l)])]⟩), (20, ⟨z0, [(false, [.tr true (.arr (1) (r1.length) (atL rowI r1))])]⟩), (44, ⟨z0, [(false, [(C.ref 20 0 [0, 0] 1 0 r1.length)])]⟩), (48, ⟨z0, [(false, [.tr true (T.int IntKind.i64 (↑r1.length : Int))])]⟩), (52, ⟨z0, [(false, [.tr true (T.int IntKind.i64 x52)])]⟩)]
def ex_iAlive_1_1 (l : List Nd) (k : Int) (x52 : Int) : St := [(16, ⟨z0, [(false, [.tr true (T.bool false)])]⟩)]
def ex_iAlive_1_2 (l : List Nd) (k : Int) (r1 : List Int) (x52 : Int) : St := [(0, ⟨z0, [(false, [.tr false (eL 13 Nd.cs l)])]⟩), (20, ⟨z0, [(false, [.tr true (.arr (1) (r1.length) (atL rowI r1))])]⟩), (44, ⟨z0, [(false, [(C.ref 20 0 [0, 0] 1 0 r1.length)])]⟩), (48, ⟨z0, [(false, [.tr true (T.int IntKind.i64 (↑r1.length : Int))])]⟩), (52, ⟨z0, [(false, [.tr true (T.int IntKind.i64 x52)])]⟩), (56, ⟨z0, []⟩)]
theorem round_iAlive_1 (l : List Nd) (k : Int) (r1 : List Int) (x52 : Int) (n : Nat) (K : Ex → St → Res) : roundAt prog (tabS [(i_iRise, e_iRise)]) kp_iAlive F_iAlive [1, 1, 0, 1, 0] n (st_iAlive_1 l k r1 x52) K = (
 bif decide (x52 < (↑r1.length : Int)) then
  gd (decide (0 ≤ x52) && (x52.toNat.blt r1.length && true)) <|
  gd ((0 + x52.toNat).blt r1.length && true && T.isI IntKind.i64 (atL rowI r1 (0 + x52.toNat) 0)) <|
  gd (decide (0 ≤ (atL rowI r1 (0 + x52.toNat) 0).toI) &&
  ((atL rowI r1 (0 + x52.toNat) 0).toI.toNat.blt l.length && true)) <|
  gd (T.isI IntKind.i64 (atL Nd.cs l (atL rowI r1 (0 + x52.toNat) 0).toI.toNat 0)) <|
  bif (atL Nd.cs l (atL rowI r1 (0 + x52.toNat) 0).toI.toNat 0).toI != 1 then
   K .ret (ex_iAlive_1_1 l k x52)
  else
  bif decide (IntKind.i64.wrap (x52 + 1) < (↑r1.length : Int)) then
   gd (decide (0 ≤ (atL rowI r1 (0 + x52.toNat) 0).toI) &&
  ((atL rowI r1 (0 + x52.toNat) 0).toI.toNat.blt l.length && true)) <|
   gd (T.isI IntKind.i64 (atL Nd.cs l (atL rowI r1 (0 + x52.toNat) 0).toI.toNat 4)) <|
   gd (decide (0 ≤ IntKind.i64.wrap (x52 + 1)) && ((IntKind.i64.wrap (x52 + 1)).toNat.blt r1.length && true)) <|
   gd ((0 + (IntKind.i64.wrap (x52 + 1)).toNat).blt r1.length && true &&
  T.isI IntKind.i64 (atL rowI r1 (0 + (IntKind.i64.wrap (x52 + 1)).toNat) 0)) <|
   gd (decide (0 ≤ (atL rowI r1 (0 + (IntKind.i64.wrap (x52 + 1)).toNat) 0).toI) &&
  ((atL rowI r1 (0 + (IntKind.i64.wrap (x52 + 1)).toNat) 0).toI.toNat.blt l.length && true)) <|
   gd (T.isI IntKind.i64 (atL Nd.cs l (atL rowI r1 (0 + (IntKind.i64.wrap (x52 + 1)).toNat) 0).toI.toNat 2)) <|
   bif (atL Nd.cs l (atL rowI r1 (0 + x52.toNat) 0).toI.toNat 4).toI !=
  (atL Nd.cs l (atL rowI r1 (0 + (IntKind.i64.wrap (x52 + 1)).toNat) 0).toI.toNat 2).toI then
    K .ret (ex_iAlive_1_1 l k x52)
   else
   K .normal (st_iAlive_1 l k r1 (IntKind.i64.wrap (x52 + 1)))
  else
  K .normal (st_iAlive_1 l k r1 (IntKind.i64.wrap (x52 + 1)))
 else
 K (.exit 0) (ex_iAlive_1_2 l k r1 x52)) := by kernel_rfl
theorem post_iAlive_1_1 (l : List Nd) (k : Int) (x52 : Int) (n : Nat) : contAt prog (tabS [(i_iRise, e_iRise)]) kp_iAlive F_iAlive ts_iAlive [1, 1, 0, 1, 0] [] n .ret (ex_iAlive_1_1 l k x52) = (
 some ([(false, [.tr true (T.bool false)])], [(false, []), (false, [])])) := by kernel_rfl
theorem post_iAlive_1_2 (l : List Nd) (k : Int) (r1 : List Int) (x52 : Int) (n : Nat) : contAt prog (tabS [(i_iRise, e_iRise)]) kp_iAlive F_iAlive ts_iAlive [1, 1, 0, 1, 0] [] n (.exit 0) (ex_iAlive_1_2 l k r1 x52) = (
 bif decide (0 < (↑r1.length : Int)) then
  gd (decide (0 ≤ IntKind.i64.wrap ((↑r1.length : Int) - 1)) &&
  ((IntKind.i64.wrap ((↑r1.length : Int) - 1)).toNat.blt r1.length && true)) <|
  gd ((0 + (IntKind.i64.wrap ((↑r1.length : Int) - 1)).toNat).blt r1.length && true &&
  T.isI IntKind.i64 (atL rowI r1 (0 + (IntKind.i64.wrap ((↑r1.length : Int) - 1)).toNat) 0)) <|
  gd (decide (0 ≤ (atL rowI r1 (0 + (IntKind.i64.wrap ((↑r1.length : Int) - 1)).toNat) 0).toI) &&
  ((atL rowI r1 (0 + (IntKind.i64.wrap ((↑r1.length : Int) - 1)).toNat) 0).toI.toNat.blt l.length &&
    true)) <|
  gd (T.isI IntKind.i64
  (atL Nd.cs l (atL rowI r1 (0 + (IntKind.i64.wrap ((↑r1.length : Int) - 1)).toNat) 0).toI.toNat 3)) <|
  some ([(false, [.tr true (T.bool
  ((atL Nd.cs l (atL rowI r1 (0 + (IntKind.i64.wrap ((↑r1.length : Int) - 1)).toNat) 0).toI.toNat
        3).toI ==
    0))])], [(false, []), (false, [])])
 else
 some ([(false, [.tr true (T.bool false)])], [(false, []), (false, [])])) := by kernel_rfl
theorem pre_iAlive (l : List Nd) (k : Int) (n : Nat) : body prog (tabS [(i_iRise, e_iRise)]) kp_iAlive n F_iAlive [aT (eL 13 Nd.cs l), aI k] = (
 entK ok_iRise ea_iRise (f_iRise) [(0, false, [C.tr false (eL 13 Nd.cs l)]), (0, false, [C.tr false (T.int IntKind.i64 k)])] fun (r1 : List Int) =>
 gd (r1.length.ble r1.length && true) <|
 loopAt prog (tabS [(i_iRise, e_iRise)]) kp_iAlive F_iAlive [1, 1, 0, 1, 0] n n (st_iAlive_1 l k r1 (0)) (contAt prog (tabS [(i_iRise, e_iRise)]) kp_iAlive F_iAlive ts_iAlive [1, 1, 0, 1, 0] [] n)) := by kernel_rfl
def ok_sAlive (x : List Nd × Int) : Prop := x.1.length ≤ LM ∧ inI x.2 ∧ upI x.1
def ea_sAlive (x : List Nd × Int) : List Arg := [aT (eL 13 Nd.cs x.1), aI x.2]
def f_sAlive (x : List Nd × Int) : Bool := alv x.1 x.2
noncomputable def e_sAlive : Ent := ent [] ok_sAlive ea_sAlive (erB 2) f_sAlive
theorem ea_sAlive_inj (x y : List Nd × Int) (h : ea_sAlive x = ea_sAlive y) : x = y := by
  obtain ⟨l1, k1⟩ := x
  obtain ⟨l2, k2⟩ := y
  simp only [ea_sAlive, List.cons.injEq, and_true, true_and] at h
  obtain ⟨e0, e1⟩ := h
  obtain rfl := eL_inj Nd.cs_inj (aT_inj e0)
  obtain rfl := aI_inj e1
  rfl
theorem dm_sAlive {l : List Nd} {k : Int} (h : ok_sAlive (l, k)) : dom ok_sAlive ea_sAlive [(0, false, [C.tr false (T.arr 13 l.length (atL Nd.cs l))]), (0, false, [C.tr false (T.int IntKind.i64 k)])] = true := dom_ea (ea := ea_sAlive) (x := (l, k)) h
theorem iv_sAlive {l : List Nd} {k : Int} (h : ok_sAlive (l, k)) : inv ok_sAlive ea_sAlive [(0, false, [C.tr false (T.arr 13 l.length (atL Nd.cs l))]), (0, false, [C.tr false (T.int IntKind.i64 k)])] = (l, k) := inv_ea ea_sAlive_inj (x := (l, k)) h
theorem d_sAlive (l : List Nd) (k : Int) : f_sAlive (l, k) = alv l k := rfl
def i_sAlive : Nat := 149
noncomputable abbrev F_sAlive : Func := f149
def kp_sAlive : List (Nat × List Nat) := [(0, [0, 4]), (1, [0, 20]), (2, [0, 20, 24]), (3, [0, 20, 24, 52, 104, 108, 112, 116, 120, 124, 128, 132, 136, 140, 144, 148, 152, 156, 180, 184, 188, 192, 196, 200, 204, 208, 212, 216, 220]), (4, [0, 20, 24]), (5, [0, 20, 24, 160]), (6, [16]), (7, [16])]
def ts_sAlive : List Nat := [0, 0]
def st_sAlive_1 (l : List Nd) (k : Int) (r1 : List Int) (x24 : Int) : St := [(0, ⟨z0, [(false, [.tr false (eL 13 Nd.cs l)])]⟩), (20, ⟨z0, [(false, [.tr true (.arr (1) (r1.length) (atL rowI r1))])]⟩), (24, ⟨z0, [(false, [.tr true (T.int IntKind.i64 x24)])]⟩)]
def ex_sAlive_1_1 (l : List Nd) (k : Int) (x24 : Int) : St := [(16, ⟨z0, [(false, [.tr true (T.bool false)])]⟩)]
def ex_sAlive_1_2 (l : List Nd) (k : Int) (r1 : List Int) (x24 : Int) : St := [(0, ⟨z0, [(false, [.tr false (eL 13 Nd.cs l)])]⟩), (20, ⟨z0, [(false, [.tr true (.arr (1) (r1.length) (atL rowI r1))])]⟩), (24, ⟨z0, [(false, [.tr true (T.int IntKind.i64 x24)])]⟩), (52, ⟨z0, []⟩)]
theorem round_sAlive_1 (l : List Nd) (k : Int) (r1 : List Int) (x24 : Int) (n : Nat) (K : Ex → St → Res) : roundAt prog (tabS [(i_sRise, e_sRise), (i_l9In, e_l9In)]) kp_sAlive F_sAlive [1, 1, 0, 1, 0] n (st_sAlive_1 l k r1 x24) K = (
 bif decide (x24 < (↑r1.length : Int)) then
  gd (decide (0 ≤ x24) && (x24.toNat.blt r1.length && true)) <|
  gd ((0 + x24.toNat).blt r1.length && true && T.isI IntKind.i64 (atL rowI r1 (0 + x24.toNat) 0)) <|
  gd (decide (0 ≤ (atL rowI r1 (0 + x24.toNat) 0).toI) &&
  ((atL rowI r1 (0 + x24.toNat) 0).toI.toNat.blt l.length && true)) <|
  gd (T.isI IntKind.i64 (atL Nd.cs l (atL rowI r1 (0 + x24.toNat) 0).toI.toNat 0)) <|
  bif (atL Nd.cs l (atL rowI r1 (0 + x24.toNat) 0).toI.toNat 0).toI != 1 then
   K .ret (ex_sAlive_1_1 l k x24)
  else
  bif decide (IntKind.i64.wrap (x24 + 1) < (↑r1.length : Int)) then
   gd (decide (0 ≤ x24) && (x24.toNat.blt r1.length && true)) <|
   gd ((0 + x24.toNat).blt r1.length && true && T.isI IntKind.i64 (atL rowI r1 (0 + x24.toNat) 0)) <|
   gd (decide (0 ≤ (atL rowI r1 (0 + x24.toNat) 0).toI) &&
  ((atL rowI r1 (0 + x24.toNat) 0).toI.toNat.blt l.length && true)) <|
   gd (T.isI IntKind.i64 (atL Nd.cs l (atL rowI r1 (0 + x24.toNat) 0).toI.toNat 3)) <|
   bif decide (1 ≤ (atL Nd.cs l (atL rowI r1 (0 + x24.toNat) 0).toI.toNat 3).toI) then
    bif decide ((atL Nd.cs l (atL rowI r1 (0 + x24.toNat) 0).toI.toNat 3).toI ≤ (↑l.length : Int)) then
     gd (decide (0 ≤ IntKind.i64.wrap ((atL Nd.cs l (atL rowI r1 (0 + x24.toNat) 0).toI.toNat 3).toI - 1)) &&
  ((IntKind.i64.wrap ((atL Nd.cs l (atL rowI r1 (0 + x24.toNat) 0).toI.toNat 3).toI - 1)).toNat.blt l.length &&
    true)) <|
     gd (T.isI IntKind.i64
  (atL Nd.cs l (IntKind.i64.wrap ((atL Nd.cs l (atL rowI r1 (0 + x24.toNat) 0).toI.toNat 3).toI - 1)).toNat 0)) <|
     bif (atL Nd.cs l (IntKind.i64.wrap ((atL Nd.cs l (atL rowI r1 (0 + x24.toNat) 0).toI.toNat 3).toI - 1)).toNat
      0).toI ==
  1 then
      gd (decide (0 ≤ IntKind.i64.wrap ((atL Nd.cs l (atL rowI r1 (0 + x24.toNat) 0).toI.toNat 3).toI - 1)) &&
  ((IntKind.i64.wrap ((atL Nd.cs l (atL rowI r1 (0 + x24.toNat) 0).toI.toNat 3).toI - 1)).toNat.blt l.length &&
    true)) <|
      gd (T.isI IntKind.i64
  (atL Nd.cs l (IntKind.i64.wrap ((atL Nd.cs l (atL rowI r1 (0 + x24.toNat) 0).toI.toNat 3).toI - 1)).toNat 2)) <|
      gd (decide (0 ≤ (atL rowI r1 (0 + x24.toNat) 0).toI) &&
  ((atL rowI r1 (0 + x24.toNat) 0).toI.toNat.blt l.length && true)) <|
      gd (T.isI IntKind.i64 (atL Nd.cs l (atL rowI r1 (0 + x24.toNat) 0).toI.toNat 4)) <|
      bif !(atL Nd.cs l (IntKind.i64.wrap ((atL Nd.cs l (atL rowI r1 (0 + x24.toNat) 0).toI.toNat 3).toI - 1)).toNat
        2).toI ==
    (atL Nd.cs l (atL rowI r1 (0 + x24.toNat) 0).toI.toNat 4).toI then
       K .ret (ex_sAlive_1_1 l k x24)
      else
      K .normal (st_sAlive_1 l k r1 (IntKind.i64.wrap (x24 + 1)))
     else
     K .ret (ex_sAlive_1_1 l k x24)
    else
    K .ret (ex_sAlive_1_1 l k x24)
   else
   K .ret (ex_sAlive_1_1 l k x24)
  else
  K .normal (st_sAlive_1 l k r1 (IntKind.i64.wrap (x24 + 1)))
 else
 K (.exit 0) (ex_sAlive_1_2 l k r1 x24)) := by kernel_rfl
theorem post_sAlive_1_1 (l : List Nd) (k : Int) (x24 : Int) (n : Nat) : contAt prog (tabS [(i_sRise, e_sRise), (i_l9In, e_l9In)]) kp_sAlive F_sAlive ts_sAlive [1, 1, 0, 1, 0] [] n .ret (ex_sAlive_1_1 l k x24) = (
 some ([(false, [.tr true (T.bool false)])], [(false, []), (false, [])])) := by kernel_rfl
theorem post_sAlive_1_2 (l : List Nd) (k : Int) (r1 : List Int) (x24 : Int) (n : Nat) : contAt prog (tabS [(i_sRise, e_sRise), (i_l9In, e_l9In)]) kp_sAlive F_sAlive ts_sAlive [1, 1, 0, 1, 0] [] n (.exit 0) (ex_sAlive_1_2 l k r1 x24) = (
 bif decide (0 < (↑r1.length : Int)) then
  gd (decide (0 ≤ IntKind.i64.wrap ((↑r1.length : Int) - 1)) &&
  ((IntKind.i64.wrap ((↑r1.length : Int) - 1)).toNat.blt r1.length && true)) <|
  gd ((0 + (IntKind.i64.wrap ((↑r1.length : Int) - 1)).toNat).blt r1.length && true &&
  T.isI IntKind.i64 (atL rowI r1 (0 + (IntKind.i64.wrap ((↑r1.length : Int) - 1)).toNat) 0)) <|
  gd (decide (0 ≤ (atL rowI r1 (0 + (IntKind.i64.wrap ((↑r1.length : Int) - 1)).toNat) 0).toI) &&
  ((atL rowI r1 (0 + (IntKind.i64.wrap ((↑r1.length : Int) - 1)).toNat) 0).toI.toNat.blt l.length &&
    true)) <|
  gd (T.isI IntKind.i64
  (atL Nd.cs l (atL rowI r1 (0 + (IntKind.i64.wrap ((↑r1.length : Int) - 1)).toNat) 0).toI.toNat 3)) <|
  some ([(false, [.tr true (T.bool
  ((atL Nd.cs l (atL rowI r1 (0 + (IntKind.i64.wrap ((↑r1.length : Int) - 1)).toNat) 0).toI.toNat
        3).toI ==
    0))])], [(false, []), (false, [])])
 else
 some ([(false, [.tr true (T.bool false)])], [(false, []), (false, [])])) := by kernel_rfl
theorem pre_sAlive (l : List Nd) (k : Int) (n : Nat) : body prog (tabS [(i_sRise, e_sRise), (i_l9In, e_l9In)]) kp_sAlive n F_sAlive [aT (eL 13 Nd.cs l), aI k] = (
 entK ok_sRise ea_sRise (f_sRise) [(0, false, [C.tr false (eL 13 Nd.cs l)]), (0, false, [C.tr false (T.int IntKind.i64 k)])] fun (r1 : List Int) =>
 gd (r1.length.ble r1.length && true) <|
 loopAt prog (tabS [(i_sRise, e_sRise), (i_l9In, e_l9In)]) kp_sAlive F_sAlive [1, 1, 0, 1, 0] n n (st_sAlive_1 l k r1 (0)) (contAt prog (tabS [(i_sRise, e_sRise), (i_l9In, e_l9In)]) kp_sAlive F_sAlive ts_sAlive [1, 1, 0, 1, 0] [] n)) := by kernel_rfl
end Go.Mach.F