/- Operations as a whole, and regions in whatever order, are sound. Conditions: none (lemmas). -/
import Derived.Test.YtkbhcdenfigpoaaN5
set_option linter.all false
namespace Go.Mach
theorem evalK_prop {α : Type} (φ : Sems) (p : Pr α) : ∀ (σ : St) (L : Log) (K : α → St → Log → Prop), p.evalK φ False σ L K ↔ ∃ a σ' L', p.run φ σ L = some (a, σ', L') ∧ K a σ' L' := by
  induction p with
  | ret a =>
    intro σ L K
    refine ⟨fun h => ⟨a, σ, L, rfl, h⟩, fun ⟨a', σ', L', e, h⟩ => ?_⟩
    have e := Option.some.inj e
    obtain ⟨rfl, rfl, rfl⟩ : a = a' ∧ σ = σ' ∧ L = L' := ⟨congrArg (·.1) e, congrArg (·.2.1) e, congrArg (·.2.2) e⟩
    exact h
  | rd r k ih => intro σ L K; exact ih _ σ _ K
  | wr r c k ih =>
    intro σ L K
    simp only [Pr.evalK, Pr.run]
    cases σ.has r with
    | true => exact ih _ _ K
    | false => simp
  | call f a k ih =>
    intro σ L K
    simp only [Pr.evalK, Pr.run]
    rcases φ.det f a with hd | ⟨rs, outs, hd⟩
    · rw [hd, hd]; simp
    · rw [hd, hd]; exact ih _ _ _ _ K
  | ask f k ih => intro σ L K; exact ih _ σ _ K
  | br b x y ihx ihy =>
    intro σ L K
    cases b with
    | true => exact ihx _ _ K
    | false => exact ihy _ _ K
  | fail => intro σ L K; simp [Pr.evalK, Pr.run]
theorem evalK_nat {α R R' : Type} (φ : Sems) (h : R → R') (z : R) (z' : R') (hz : h z = z') (p : Pr α) : ∀ (σ : St) (L : Log) (K : α → St → Log → R), h (p.evalK φ z σ L K) = p.evalK φ z' σ L (fun a σ L => h (K a σ L)) := by
  induction p with
  | ret a => intro σ L K; rfl
  | rd r k ih => intro σ L K; exact ih _ σ _ K
  | wr r c k ih =>
    intro σ L K
    simp only [Pr.evalK]
    cases σ.has r with
    | true => exact ih _ _ K
    | false => exact hz
  | call f a k ih =>
    intro σ L K
    simp only [Pr.evalK]
    rcases φ.det f a with hd | ⟨rs, outs, hd⟩
    · rw [hd, hd]; exact hz
    · rw [hd, hd]; exact ih _ _ _ _ K
  | ask f k ih => intro σ L K; exact ih _ σ _ K
  | br b x y ihx ihy =>
    intro σ L K
    cases b with
    | true => exact ihx _ _ K
    | false => exact ihy _ _ K
  | fail => intro σ L K; exact hz
section
variable {P : Program} {φ : Sems}
theorem op_sound (hφ : SemsOk P φ) (o : Oper) : OpOk P φ o (opP P o) := by
  obtain ⟨dst, op, ty, pos, after, guard⟩ := o
  have nope : ∀ {p : Pr Unit}, p = .fail → OpOk P φ ⟨dst, op, ty, pos, after, guard⟩ p := fun e => by
    subst e
    intro E σ a w L σ' L' _ hrun
    exact (run_fail hrun).elim
  cases op with
  | move x => exact ok_move
  | assign x => exact ok_assign
  | pick c x y => exact ok_pick
  | alloc e => exact ok_alloc
  | box e x => exact ok_box
  | load t x => exact ok_load
  | store t x y => exact ok_store
  | nilCheck x => exact ok_nilCheck
  | fieldAddr t x k => exact ok_fieldAddr
  | field t x k => exact ok_field
  | indexAddr t x i => exact ok_indexAddr
  | index t x i => exact ok_index
  | binOp op t x y yt => exact ok_binOp
  | unOp op t x => cases op with
    | not => exact ok_not
    | _ => exact nope rfl
  | convert s d x => exact ok_convert
  | extract x i => exact ok_extract
  | makeFunc fn first caps => cases fn with
    | func f => exact ok_makeFunc
    | _ => exact nope rfl
  | makeSlice t l c => exact ok_makeSlice
  | slice t x lo hi mx => cases mx with
    | none => exact ok_slice
    | some m => exact nope rfl
  | build t ps => exact ok_build
  | buildSlice t len ps => exact ok_buildSlice
  | call c =>
    obtain ⟨callee, args, argTypes⟩ := c
    cases callee with
    | value f => exact ok_call hφ
    | invoke r m => exact nope rfl
    | builtin b => cases b with
      | min =>
        obtain ⟨args⟩ := args
        match args with
        | [x, y] => exact ok_min
        | [] => exact nope rfl
        | [_] => exact nope rfl
        | _ :: _ :: _ :: _ => exact nope rfl
      | len =>
        obtain ⟨args⟩ := args
        obtain ⟨argTypes⟩ := argTypes
        match args, argTypes with
        | [x], [t] => exact ok_len
        | [], _ => exact nope rfl
        | [_], [] => exact nope rfl
        | [_], _ :: _ :: _ => exact nope rfl
        | _ :: _ :: _, _ => exact nope rfl
      | append =>
        obtain ⟨args⟩ := args
        obtain ⟨argTypes⟩ := argTypes
        match args, argTypes with
        | [x, y], [t, t'] =>
          cases ht : Nat.beq t t' with
          | false =>
            refine nope ?_
            simp [opP, ht]
          | true =>
            have := beq_eq ht
            subst this
            cases he : elemTy P t with
            | none =>
              refine nope ?_
              simp [opP, he, beqT]
            | some e =>
              have : opP P ⟨dst, .call ⟨.builtin .append, ⟨[x, y]⟩, ⟨[t, t]⟩⟩, ty, pos, after, guard⟩ = appendP P e dst x y := by simp [opP, he, beqT]
              rw [this]
              exact ok_append he
        | [], _ => exact nope rfl
        | [_], _ => exact nope rfl
        | [_, _], [] => exact nope rfl
        | [_, _], [_] => exact nope rfl
        | [_, _], _ :: _ :: _ :: _ => exact nope rfl
        | _ :: _ :: _ :: _, _ => exact nope rfl
      | _ => exact nope rfl
  | _ => exact nope rfl
theorem oper_sound (hφ : SemsOk P φ) {ops : Array Oper} {i : Nat} {o : Oper} (hi : ops[i]? = some o) {E : Env} {σ σ' : St} {a : Act} {w : World} {L L' : Log} (h : S E σ a w) (hrun : (operP P ops o).run φ σ L = some ((), σ', L'))
    {K : Act → World → Prop} {Q : Exit → Act → World → Prop} (hK : ∀ a' w', S E σ' a' w' → K a' w') : wpOp P ops Q i K a w := by
  unfold wpOp
  simp only [hi]
  have hput : ∀ {L1}, (put o.dst undefRows).run φ σ L1 = some ((), σ', L') → S E σ' (a.put o.dst undef) w := fun hr => put_sound0 (rows := undefRows) h (fun G _ _ => show RelRow E G σ.V w (fun _ => noG) (false, []) undef from rfl) hr
  unfold operP at hrun
  split at hrun
  · rename_i hg
    have hw : Region.wanted o (yielded ops a.tmps) = true := by unfold Region.wanted; rw [hg]
    rw [if_pos hw]
    exact .inl (op_sound hφ o E σ a w L σ' L' h hrun K Q hK)
  · rename_i g want hg
    split at hrun
    case h_2 => exact (run_fail hrun).elim
    rename_i t ht
    rw [runRd] at hrun
    obtain ⟨G, hG, hp⟩ := h
    have hslot := hG.slots t
    split at hrun
    · rename_i own b hrows
      rw [hrows] at hslot
      have hv : a.tmps.getD t undef = .bool b := relBool (show RelC E G _ w _ (.tr own (.bool b)) _ from hslot)
      have hy : yielded ops a.tmps g = some b := by
        unfold yielded
        rw [ht]
        simp only [Option.bind_some]
        rw [Array.getD_eq_getD_getElem?] at hv
        cases hx : a.tmps[t]? with
        | none => rw [hx] at hv; simp [undef] at hv
        | some x => rw [hx] at hv; simp at hv; subst hv; rfl
      have hw : Region.wanted o (yielded ops a.tmps) = (bif want then b else !b) := by
        unfold Region.wanted
        rw [hg]
        show (yielded ops a.tmps g == some want) = _
        rw [hy]
        cases want <;> cases b <;> rfl
      rw [hw]
      cases hb : (bif want then b else !b) with
      | true =>
        rw [hb] at hrun
        simp only [if_true]
        exact .inl (op_sound hφ o E σ a w _ σ' L' ⟨G, hG, hp⟩ hrun K Q hK)
      | false =>
        rw [hb] at hrun
        simp only [Bool.false_eq_true, if_false]
        exact hK _ _ (hput hrun)
    · rename_i hrows
      rw [hrows] at hslot
      have hv : a.tmps.getD t undef = undef := hslot
      have hy : yielded ops a.tmps g = none := by
        unfold yielded
        rw [ht]
        simp only [Option.bind_some]
        rw [Array.getD_eq_getD_getElem?] at hv
        cases hx : a.tmps[t]? with
        | none => rfl
        | some x => rw [hx] at hv; simp at hv; subst hv; rfl
      have hw : Region.wanted o (yielded ops a.tmps) = false := by
        unfold Region.wanted
        rw [hg]
        show (yielded ops a.tmps g == some want) = _
        rw [hy]
        rfl
      rw [hw]
      simp only [Bool.false_eq_true, if_false]
      exact hK _ _ (hput hrun)
    · exact (run_fail hrun).elim
/-! ### preparing and trimming a state -/
theorem get_add (σ : St) (r r' : Nat) : (σ.add r).get r' = σ.get r' := by
  unfold St.add
  cases h : σ.has r with
  | true => rfl
  | false =>
    simp only [cond_false]
    have key : ∀ σ : St, (σ ++ [(r, (⟨z0, []⟩ : Ct))]).get r' = σ.get r' := by
      intro σ
      induction σ with
      | nil => simp only [List.nil_append, St.get]; cases Nat.beq r r' <;> rfl
      | cons x σ ih => simp only [List.cons_append, St.get, ih]
    exact key σ
theorem has_add (σ : St) (r r' : Nat) : (σ.add r).has r' = true ↔ (σ.has r' = true ∨ r' = r) := by
  unfold St.add
  cases h : σ.has r with
  | true =>
    simp only [cond_true]
    exact ⟨.inl, fun h' => h'.elim id fun e => e ▸ h⟩
  | false =>
    simp only [cond_false, has_iff, List.map_append, List.mem_append, List.map_cons, List.map_nil, List.mem_singleton]
theorem Rel.add {E σ a w G} (h : Rel E σ a w G) (r : Nat) (hr : ∀ t, r = slot t → t < E.nt) : Rel E (σ.add r) a w G where
  nd := by
    unfold St.add
    cases hh : σ.has r with
    | true => exact h.nd
    | false =>
      simp only [cond_false, List.map_append, List.map_cons, List.map_nil]
      refine List.nodup_append.2 ⟨h.nd, by simp, fun x hx y hy => ?_⟩
      simp only [List.mem_singleton] at hy
      subst hy
      intro e
      subst e
      rw [← has_iff] at hx
      rw [hx] at hh
      cases hh
  inj := h.inj
  rng := h.rng
  os := h.os
  tape := h.tape
  output := h.output
  size := h.size
  kept := h.kept
  slots := fun t => by simp only [get_add]; exact h.slots t
  boxes := fun t => by simp only [get_add]; exact h.boxes t
  exts := fun t => by simp only [get_add]; exact h.exts t
  xbox := h.xbox
  defers := h.defers
  tm := h.tm
  here := fun t ht => by
    rw [has_add] at ht
    rcases ht with h1 | h1
    · exact h.here t h1
    · exact hr t h1.symm
theorem S.prep {E a w} : ∀ (l : List Oper) {σ : St}, S E σ a w → S E (prep E.nt l σ) a w
  | [], σ, h => h
  | o :: l, σ, h => by
    refine S.prep l ?_
    unfold prepOne
    split
    · rename_i d hd
      cases hlt : Nat.blt d E.nt with
      | false => exact h
      | true =>
        simp only [Nat.blt_eq] at hlt
        obtain ⟨G, hG, hp⟩ := h
        have h1 := hG.add (slot d) (fun t e => by have := slot_inj e; omega)
        have h2 := h1.add (box d) (fun t e => absurd e.symm (slot_ne_box t d))
        simp only [cond_true]
        split
        · exact ⟨G, h2, hp⟩
        · exact ⟨G, h2, hp⟩
        · exact ⟨G, h1, hp⟩
    · exact h
end
end Go.Mach
