/- Operations that touch no memory are sound. Conditions: none (lemmas). -/
import Derived.Test.YtkbhcdenfigpoaaM4
import Derived.WalkKit
set_option linter.all false
namespace Go.Mach
/-- What is shown of an operation: where the machine's program runs, the operation's wp holds. -/
def OpOk (P : Program) (φ : Sems) (o : Oper) (p : Pr Unit) : Prop := ∀ E σ a w L σ' L', S E σ a w → p.run φ σ L = some ((), σ', L') → ∀ K Q, (∀ a' w', S E σ' a' w' → K a' w') → o.wp P a w K Q
section
variable {P : Program} {φ : Sems} {o : Oper} {a : Act} {w : World}
theorem wp_value {K Q v w'} (h : (execOp a.eval o).run P w = .ok (.value v) w') (hk : K (a.put o.dst v) w') : o.wp P a w K Q := by
  unfold Oper.wp; rw [h]; exact hk
theorem wp_skipped {K Q w'} (h : (execOp a.eval o).run P w = .ok .skip w') (hk : K (a.put o.dst undef) w') : o.wp P a w K Q := by
  unfold Oper.wp; rw [h]; exact hk
theorem run_v {s : Sem Value} {x w'} (h : s.run P w = .ok x w') : ((do pure (Next.value (← s))) : Sem Next).run P w = .ok (.value x) w' := by simp [h]
theorem run_u {s : Sem Unit} {w'} (h : s.run P w = .ok () w') : ((do s; pure Next.skip) : Sem Next).run P w = .ok .skip w' := by simp [h]
theorem addr_add (b o n : Nat) : (⟨b, o, none⟩ : Addr).add n = ⟨b, o + n, none⟩ := by unfold Addr.add; split <;> simp_all
theorem run_underlying {t d} (h : P.underlying t = some d) : (underlying t).run P w = .ok d w := by simp [underlying, h]
theorem run_sizeOf {t i} (h : P.info? t = some i) : (sizeOf t).run P w = .ok i.size w := by simp [sizeOf, typeInfo, h]
theorem info_of_sz {t} (h : szOf P t ≠ 0) : ∃ i, P.info? t = some i ∧ i.size = szOf P t := by
  unfold szOf at *
  cases e : P.info? t with
  | none => simp [e] at h
  | some i => exact ⟨i, rfl, rfl⟩
theorem run_isAgg {t d} (h : P.underlying t = some d) : (isAgg t).run P w = .ok (isAg P t) w := by
  unfold isAgg isAg
  simp only [Sem.run_bind, run_underlying h, Result.andThen_ok, h]
  cases d <;> simp
theorem relBool {E G V g own p v} (h : RelC E G V w g (.tr own (.bool p)) v) : v = .bool p := by cases own <;> exact h
theorem relInt {E G V g own k p v} (h : RelC E G V w g (.tr own (.int k p)) v) : v = .int k p := by cases own <;> exact h
theorem relStr {E G V g own p v} (h : RelC E G V w g (.tr own (.str p)) v) : v = .string p := by cases own <;> exact h
theorem putT_sound {E σ G} (h : Rel E σ a w G) (hp : ∀ y, G (park y) = noG) {dst L t v σ' L' u} (hr : RelOwn w t noG v) (hrun : (putT dst t).run φ σ L = some (u, σ', L')) : S E σ' (a.put dst v) w :=
  put_sound h 0 (rows := [(false, [.tr true t])]) (by rw [hp 0]; exact hr) hrun
theorem put1_sound {E σ G} (h : Rel E σ a w G) (hp : ∀ y, G (park y) = noG) {dst L c v σ' L' u} (hr : RelC E G σ.V w noG c v) (hrun : (put1 dst c).run φ σ L = some (u, σ', L')) : S E σ' (a.put dst v) w :=
  put_sound h 0 (rows := [(false, [c])]) (by rw [hp 0]; exact hr) hrun
theorem ok_move {dst x ty pos after guard} : OpOk P φ ⟨dst, .move x, ty, pos, after, guard⟩ ((peek x).bind (put dst)) := by
  intro E σ a w L σ' L' ⟨G, hG, hp⟩ hrun K Q hK
  obtain ⟨rows, σ1, L1, h1, h2⟩ := run_bind hrun
  obtain ⟨rfl, hrel⟩ := peek_sound hG h1
  exact wp_value (v := a.eval x) (w' := w) rfl (hK _ _ (put_sound hG 0 (by rw [hp 0]; exact hrel) h2))
theorem takeRow_sound {E σ G} (h : Rel E σ a w G) (y : Nat) (hp : G (park y) = noG) {x row' L σ' L'} (hrun : (takeRow x).run φ σ L = some (row', σ', L')) :
    ∃ G', Rel E σ' a w G' ∧ RelRow E G' σ'.V w (fun k q => G' (park y) (0 :: k :: q)) row' (a.eval x) ∧ Good G σ.V G' σ'.V ∧ ∀ z, z ≠ y → G' (park z) = G (park z) := by
  obtain ⟨row, σ1, L1, h1, h2⟩ := run_bind hrun
  obtain ⟨rfl, hrel⟩ := peekRow_sound h h1
  obtain ⟨G', hG', hr, _, hgood, hpk⟩ := takeRowC_sound h φ y hp hrel h2
  exact ⟨G', hG', hr, hgood, hpk⟩
theorem typC_rel {E : Env} {G : GG} {V : Nat → Ver} {w : World} {g : Gh} {t : TypeId} {c : C} {v : Value} (h : RelC E G V w g c v) : RelC E G V w g (typC P t c) v := by
  unfold typC
  split
  · rename_i m n f
    cases hm : Nat.beq m 0 with
    | false => exact h
    | true =>
      simp only [cond_true]
      split
      · rcases h with ⟨h1, _, h3⟩ | ⟨b, off, cap, cs, e, _, _, h3, _⟩
        · exact .inl ⟨h1, rfl, h3⟩
        · have := beq_eq hm
          omega
      · exact h
  · exact h
theorem typCs_len : ∀ (ts : List TypeId) (cs : List C), (typCs P ts cs).length = cs.length
  | [], _ => by simp [typCs]
  | _ :: _, [] => by simp [typCs]
  | t :: ts, c :: cs => by simp [typCs, typCs_len ts cs]
theorem typCs_get {E : Env} {G : GG} {V : Nat → Ver} {w : World} {g : Gh} {v : Value} : ∀ (ts : List TypeId) (cs : List C) (k : Nat) (c : C), (typCs P ts cs)[k]? = some c → ∃ c0, cs[k]? = some c0 ∧ (RelC E G V w g c0 v → RelC E G V w g c v)
  | [], cs, k, c, h => ⟨c, by simpa [typCs] using h, id⟩
  | _ :: _, [], k, c, h => by simp [typCs] at h
  | t :: ts, c0 :: cs, k, c, h => by
    cases k with
    | zero => simp [typCs] at h; subst h; exact ⟨c0, rfl, typC_rel⟩
    | succ k => simpa using typCs_get ts cs k c (by simpa [typCs] using h)
theorem typCs_rel {E : Env} {G : GG} {V : Nat → Ver} {w : World} {g : Nat → Gh} {ts : List TypeId} {cs : List C} {vs : Array Value} (h : RelCs E G V w g cs vs) : RelCs E G V w g (typCs P ts cs) vs := by
  refine ⟨by rw [typCs_len]; exact h.1, fun k c hk => ?_⟩
  have hc : ∃ c0, cs[k]? = some c0 := (typCs_get (P := P) (E := E) (G := G) (V := V) (w := w) (g := g k) (v := undef) ts cs k c hk).imp fun _ h => h.1
  obtain ⟨c0, hc0⟩ := hc
  obtain ⟨u, hu, hr⟩ := h.2 k c0 hc0
  obtain ⟨c1, hc1, hr1⟩ := typCs_get (P := P) (E := E) (G := G) (V := V) (w := w) (g := g k) (v := u) ts cs k c hk
  rw [hc0] at hc1
  cases hc1
  exact ⟨u, hu, hr1 hr⟩
theorem typRow_rel {E : Env} {G : GG} {V : Nat → Ver} {w : World} {g : Nat → Gh} {ts : List TypeId} {row : Row} {v : Value} (h : RelRow E G V w g row v) : RelRow E G V w g (row.1, typCs P ts row.2) v := by
  obtain ⟨ag, cs⟩ := row
  cases ag with
  | true => obtain ⟨vs, e, hc⟩ := h; exact ⟨vs, e, typCs_rel hc⟩
  | false => match cs, h with
    | [], hx => cases ts <;> exact hx
    | [c], hx => cases ts with
      | nil => exact hx
      | cons t ts => cases ts <;> exact typC_rel hx
theorem ok_assign {dst x ty pos after guard} : OpOk P φ ⟨dst, .assign x, ty, pos, after, guard⟩ ((takeRow x).bind fun row => put dst [(row.1, typCs P [ty] row.2)]) := by
  intro E σ a w L σ' L' ⟨G, hG, hp⟩ hrun K Q hK
  obtain ⟨row, σ1, L1, h1, h2⟩ := run_bind hrun
  obtain ⟨G', hG', hr, _, _⟩ := takeRow_sound hG 0 (hp 0) h1
  exact wp_value (v := a.eval x) (w' := w) rfl (hK _ _ (put_sound hG' 0 (rows := [(row.1, typCs P [ty] row.2)]) (typRow_rel hr) h2))
theorem ok_pick {dst c x y ty pos after guard} : OpOk P φ ⟨dst, .pick c x y, ty, pos, after, guard⟩ (opP P ⟨dst, .pick c x y, ty, pos, after, guard⟩) := by
  intro E σ a w L σ' L' ⟨G, hG, hp⟩ hrun K Q hK
  obtain ⟨c', σ1, L1, h1, h2⟩ := run_bind hrun
  obtain ⟨rfl, hrel⟩ := peek1_sound hG h1
  split at h2
  · rename_i p
    have hv := relBool hrel
    have hx : (execOp a.eval ⟨dst, .pick c x y, ty, pos, after, guard⟩).run P w = .ok (.value (if p then a.eval x else a.eval y)) w := by
      simp [execOp, hv, asBool]
    cases p with
    | true =>
      obtain ⟨rows, σ2, L2, h3, h4⟩ := run_bind (φ := φ) (p := peek x) (g := put dst) h2
      obtain ⟨rfl, hr2⟩ := peek_sound hG h3
      exact wp_value hx (hK _ _ (put_sound hG 0 (by rw [hp 0]; exact hr2) h4))
    | false =>
      obtain ⟨rows, σ2, L2, h3, h4⟩ := run_bind (φ := φ) (p := peek y) (g := put dst) h2
      obtain ⟨rfl, hr2⟩ := peek_sound hG h3
      exact wp_value hx (hK _ _ (put_sound hG 0 (by rw [hp 0]; exact hr2) h4))
  · exact (run_fail h2).elim
theorem ok_not {dst t x ty pos after guard} : OpOk P φ ⟨dst, .unOp .not t x, ty, pos, after, guard⟩ (opP P ⟨dst, .unOp .not t x, ty, pos, after, guard⟩) := by
  intro E σ a w L σ' L' ⟨G, hG, hp⟩ hrun K Q hK
  obtain ⟨c', σ1, L1, h1, h2⟩ := run_bind hrun
  obtain ⟨rfl, hrel⟩ := peek1_sound hG h1
  split at h2
  · rename_i b
    have hv := relBool hrel
    exact wp_value (v := .bool !b) (w' := w) (by simp [execOp, hv, Op.unary]) (hK _ _ (putT_sound hG hp (t := .bool !b) rfl h2))
  · exact (run_fail h2).elim
theorem ok_extract {dst x i ty pos after guard} : OpOk P φ ⟨dst, .extract x i, ty, pos, after, guard⟩ (opP P ⟨dst, .extract x i, ty, pos, after, guard⟩) := by
  intro E σ a w L σ' L' ⟨G, hG, hp⟩ hrun K Q hK
  obtain ⟨rows, σ1, L1, h1, h2⟩ := run_bind hrun
  obtain ⟨rfl, hrel⟩ := peek_sound hG h1
  split at h2
  · rename_i r r' rs
    split at h2
    · rename_i row hi
      obtain ⟨vs, e, hs, hh⟩ := hrel
      obtain ⟨u, hu, hr⟩ := hh i row hi
      refine wp_value (v := u) (w' := w) (by simp [execOp, e, Instr.extract, hu]) (hK _ _ (put_sound hG 0 (rows := [row]) (by rw [hp 0]; exact hr) h2))
    · exact (run_fail h2).elim
  · exact (run_fail h2).elim
theorem ok_nilCheck {dst x ty pos after guard} : OpOk P φ ⟨dst, .nilCheck x, ty, pos, after, guard⟩ (opP P ⟨dst, .nilCheck x, ty, pos, after, guard⟩) := by
  intro E σ a w L σ' L' ⟨G, hG, hp⟩ hrun K Q hK
  obtain ⟨c', σ1, L1, h1, h2⟩ := run_bind hrun
  obtain ⟨rfl, hrel⟩ := peek1_sound hG h1
  split at h2
  · rename_i p
    have : ∃ ad, a.eval x = .pointer (some ad) := by
      cases p with
      | ptr r ver p m j k => obtain ⟨b, o, hv, _⟩ := hrel; exact ⟨_, hv⟩
      | pim m g => obtain ⟨b, o, hv, _⟩ := hrel; exact ⟨_, hv⟩
    obtain ⟨ad, hv⟩ := this
    refine wp_value (v := a.eval x) (w' := w) (by simp [execOp, hv]) (hK _ _ (put1_sound hG hp hrel h2))
  · rename_i f caps
    obtain ⟨vs, hv, hs, hh⟩ := hrel
    refine wp_value (v := a.eval x) (w' := w) (by simp [execOp, hv]) (hK _ _ (put1_sound hG hp (c := .fn f caps) ⟨vs, hv, hs, hh⟩ h2))
  · exact (run_fail h2).elim
theorem relPt_field {E G V x v} (off : Nat) (h : RelPt E G V x v) : ∃ b o, v = .pointer (some ⟨b, o, none⟩) ∧ RelPt E G V (fieldPt off x) (.pointer (some ⟨b, o + off, none⟩)) := by
  cases x with
  | ptr r ver p m j k =>
    obtain ⟨b, o, hv, h0, h1, h2⟩ := h
    refine ⟨b, o, hv, b, o + off, rfl, h0, h1, fun e => ?_⟩
    obtain ⟨f, cap, hg, ho⟩ := h2 e
    exact ⟨f, cap, hg, by omega⟩
  | pim m g =>
    obtain ⟨b, o, hv, hh⟩ := h
    refine ⟨b, o, hv, b, o + off, rfl, fun i hi => ?_⟩
    have := hh (off + i) (by omega)
    rw [← Nat.add_assoc] at this
    exact this
theorem fieldOf_some {t k off ft} (h : fieldOf P t k = some (off, ft)) : ∃ fs f, P.underlying t = some (.struct fs) ∧ fs[k]? = some f ∧ f.offset = off ∧ f.type = ft := by
  unfold fieldOf at h
  split at h
  · rename_i fs hu
    split at h
    · rename_i f hf
      simp only [Option.some.injEq, Prod.mk.injEq] at h
      exact ⟨fs, f, hu, hf, h.1, h.2⟩
    · simp at h
  · simp at h
theorem ok_fieldAddr {dst t x k ty pos after guard} : OpOk P φ ⟨dst, .fieldAddr t x k, ty, pos, after, guard⟩ (opP P ⟨dst, .fieldAddr t x k, ty, pos, after, guard⟩) := by
  intro E σ a w L σ' L' ⟨G, hG, hp⟩ hrun K Q hK
  obtain ⟨c', σ1, L1, h1, h2⟩ := run_bind hrun
  obtain ⟨rfl, hrel⟩ := peek1_sound hG h1
  simp only at h2
  split at h2
  · rename_i off ft pt hf
    obtain ⟨fs, f, hu, hfk, ho, hft⟩ := fieldOf_some hf
    cases hz : Nat.beq (szOf P ft) 0 with
    | true => rw [hz] at h2; exact (run_fail h2).elim
    | false =>
      rw [hz] at h2
      have hne : szOf P ft ≠ 0 := fun e => by rw [e] at hz; cases hz
      obtain ⟨i, hi, his⟩ := info_of_sz hne
      obtain ⟨b, o, hv, hpt⟩ := relPt_field off hrel
      refine wp_value (v := .pointer (some ⟨b, o + off, none⟩)) (w' := w) ?_ (hK _ _ (put1_sound hG hp (c := .pt (fieldPt off pt)) hpt h2))
      have hsz : (sizeOf f.type).run P w = .ok i.size w := run_sizeOf (hft ▸ hi)
      have hi0 : i.size ≠ 0 := his ▸ hne
      simp [execOp, Instr.fieldAt, run_underlying hu, hfk, hv, Instr.sureAddr, fieldPlace, hsz, hi0, addr_add, ho]
  · exact (run_fail h2).elim
theorem mapPeek_sound {E σ G} (h : Rel E σ a w G) : ∀ (l : List Operand) {cs L σ' L'}, (mapP peek1 l).run φ σ L = some (cs, σ', L') → σ' = σ ∧ cs.length = l.length ∧ ∀ (i : Nat) c, cs[i]? = some c → ∃ x, l[i]? = some x ∧ RelC E G σ.V w noG c (a.eval x)
  | [], cs, L, σ', L', hr => by
    have := run_ret (φ := φ) hr
    simp at this
    obtain ⟨rfl, rfl, rfl⟩ := this
    exact ⟨rfl, rfl, fun i c hi => by simp at hi⟩
  | x :: l, cs, L, σ', L', hr => by
    obtain ⟨c, σ1, L1, h1, h2⟩ := run_bind hr
    obtain ⟨rfl, hrel⟩ := peek1_sound h h1
    obtain ⟨cs', σ2, L2, h3, h4⟩ := run_bind h2
    obtain ⟨rfl, hl, hh⟩ := mapPeek_sound h l h3
    have := run_ret h4
    simp at this
    obtain ⟨rfl, rfl, rfl⟩ := this
    refine ⟨rfl, by simp [hl], fun i c' hi => ?_⟩
    cases i with
    | zero => simp at hi; subst hi; exact ⟨x, rfl, hrel⟩
    | succ i => simp at hi; simpa using hh i c' hi
theorem ptsOf_some : ∀ {cs : List C} {ps : List Pt}, ptsOf cs = some ps → ps.length = cs.length ∧ ∀ (i : Nat) x, ps[i]? = some x → cs[i]? = some (.pt x)
  | [], ps, h => by
    simp only [ptsOf, Option.some.injEq] at h
    subst h
    exact ⟨rfl, fun i x hi => by simp at hi⟩
  | c :: cs, ps, h => by
    cases c with
    | pt y =>
      simp only [ptsOf] at h
      cases e : ptsOf cs with
      | none => simp [e] at h
      | some ps' =>
        simp only [e, Option.some.injEq] at h
        subst h
        obtain ⟨h1, h2⟩ := ptsOf_some e
        refine ⟨by simp [h1], fun i x hi => ?_⟩
        cases i with
        | zero => simp at hi; subst hi; rfl
        | succ i => simp at hi; simpa using h2 i x hi
    | _ => simp [ptsOf] at h
theorem ok_makeFunc {dst f first caps ty pos after guard} : OpOk P φ ⟨dst, .makeFunc (.func f) first caps, ty, pos, after, guard⟩ (opP P ⟨dst, .makeFunc (.func f) first caps, ty, pos, after, guard⟩) := by
  intro E σ a w L σ' L' ⟨G, hG, hp⟩ hrun K Q hK
  simp only [opP] at hrun
  cases hz : Nat.beq first.size 0 with
  | false => rw [hz] at hrun; exact (run_fail hrun).elim
  | true =>
    rw [hz] at hrun
    have hf0 : first = #[] := by have := beq_eq hz; exact Array.eq_empty_of_size_eq_zero this
    subst hf0
    obtain ⟨cs, σ1, L1, h1, h2⟩ := run_bind (φ := φ) (p := mapP peek1 caps.toList) hrun
    obtain ⟨rfl, hl, hh⟩ := mapPeek_sound hG _ h1
    split at h2
    · rename_i ps hps
      refine wp_value (v := .func (.func f) #[] (caps.map a.eval)) (w' := w) (by simp [execOp, Instr.makeFunc]) (hK _ _ (put1_sound hG hp (c := .fn f ps) ?_ h2))
      obtain ⟨hlen, hall⟩ := ptsOf_some hps
      refine ⟨_, rfl, by simp [hlen, hl], fun i x hi => ?_⟩
      obtain ⟨y, hy, hrel⟩ := hh i _ (hall i x hi)
      exact ⟨a.eval y, by simp at hy; simp [hy], hrel⟩
    · exact (run_fail h2).elim
theorem RelCs.drop {E G V cs vs} (h : RelCs E G V w (fun _ => noG) cs vs) (off n : Nat) (hl : off + n ≤ cs.length) : RelCs E G V w (fun _ => noG) ((cs.drop off).take n) (vs.extract off (off + n)) := by
  have hs := h.1
  refine ⟨by simp; omega, fun k c hk => ?_⟩
  rw [List.getElem?_take] at hk
  split at hk
  · rename_i hlt
    rw [List.getElem?_drop] at hk
    obtain ⟨u, hu, hr⟩ := h.2 _ _ hk
    refine ⟨u, ?_, hr⟩
    have hb : off + k < vs.size := (Array.getElem?_eq_some_iff.1 hu).1
    rw [Array.getElem?_extract]
    simp only [hu]
    rw [if_pos (by omega)]
  · simp at hk
theorem ok_field {dst t x k ty pos after guard} : OpOk P φ ⟨dst, .field t x k, ty, pos, after, guard⟩ (opP P ⟨dst, .field t x k, ty, pos, after, guard⟩) := by
  intro E σ a w L σ' L' ⟨G, hG, hp⟩ hrun K Q hK
  obtain ⟨row, σ1, L1, h1, h2⟩ := run_bind hrun
  obtain ⟨rfl, hrel⟩ := peekRow_sound hG h1
  simp only at h2
  split at h2
  · rename_i off ft cs hf
    obtain ⟨fs, f, hu, hfk, ho, hft⟩ := fieldOf_some hf
    obtain ⟨hle0, h2⟩ := run_guard h2
    simp only [Bool.and_eq_true] at hle0
    obtain ⟨hok, hle⟩ := hle0
    have hle := Nat.le_of_ble_eq_true hle
    obtain ⟨vs, hv, hcs⟩ := hrel
    cases hd : P.underlying ft with
    | none => simp [okTy, hd] at hok
    | some d =>
      cases hag : isAg P ft with
      | true =>
        simp only [szA, hag, cond_true] at hle h2
        have hne : ∃ i, P.info? ft = some i := by
          unfold Program.underlying at hd
          cases e : P.info? ft with
          | none => simp [e] at hd
          | some i => exact ⟨i, rfl⟩
        obtain ⟨i, hi⟩ := hne
        have hsz : szOf P ft = i.size := by simp [szOf, hi]
        refine wp_value (v := .agg (vs.extract off (off + szOf P ft))) (w' := w) ?_ (hK _ _ (put_sound hG 0 (rows := [(true, (cs.drop off).take (szOf P ft))]) (by rw [hp 0]; exact ⟨_, rfl, hcs.drop off _ hle⟩) h2))
        simp [execOp, Instr.field, run_underlying hu, hfk, hv, asAgg, part, hft, run_isAgg hd, hag, run_sizeOf hi, ho, hsz]
      | false =>
        simp only [szA, hag, cond_false] at hle h2
        obtain ⟨c, hc⟩ : ∃ c, cs[off]? = some c := ⟨_, List.getElem?_eq_getElem (by omega)⟩
        have h1c : (cs.drop off).take 1 = [c] := by
          rw [List.take_one]
          simp [List.head?_drop, hc]
        rw [h1c] at h2
        obtain ⟨u, hu', hr⟩ := hcs.2 _ _ hc
        refine wp_value (v := u) (w' := w) ?_ (hK _ _ (put_sound hG 0 (rows := [(false, [c])]) (by rw [hp 0]; exact hr) h2))
        simp [execOp, Instr.field, run_underlying hu, hfk, hv, asAgg, part, hft, run_isAgg hd, hag, ho, hu']
  · exact (run_fail h2).elim
theorem lenC_sound {E G V c v n t ty} (h : RelC E G V w noG c v) (hn : lenC (P.underlying t) c = some n) : (Builtin.len_ #[t] ty #[v]).run P w = .ok (.int .i64 n) w := by
  unfold lenC at hn
  split at hn
  · rename_i e own m n' f hu
    simp only [Option.some.injEq] at hn
    subst hn
    cases own with
    | true => rcases h with ⟨_, rfl, rfl⟩ | ⟨b, off, cap, cs, e', _, rfl, _⟩ <;> simp [Builtin.len_, run_underlying hu, goInt]
    | false => obtain ⟨A, cap, rfl, _⟩ := h; simp [Builtin.len_, run_underlying hu, goInt]
  · rename_i own s hu
    simp only [Option.some.injEq] at hn
    subst hn
    have := relStr h
    subst this
    simp [Builtin.len_, run_underlying hu, goInt]
  · rename_i e r ver p m s n' hu
    simp only [Option.some.injEq] at hn
    subst hn
    obtain ⟨A, cap, rfl, _⟩ := h
    simp [Builtin.len_, run_underlying hu, goInt]
  · simp at hn
theorem ok_len {dst x t ty pos after guard} : OpOk P φ ⟨dst, .call ⟨.builtin .len, #[x], #[t]⟩, ty, pos, after, guard⟩ ((peek1 x).bind (lenP P t dst)) := by
  intro E σ a w L σ' L' ⟨G, hG, hp⟩ hrun K Q hK
  obtain ⟨c', σ1, L1, h1, h2⟩ := run_bind hrun
  obtain ⟨rfl, hrel⟩ := peek1_sound hG h1
  unfold lenP at h2
  split at h2
  · rename_i n hn
    refine wp_value (v := .int .i64 n) (w' := w) ?_ (hK _ _ (putT_sound hG hp (t := .int .i64 n) rfl h2))
    have := lenC_sound (w := w) (ty := ty) hrel hn
    simp [execOp, resolve, invoke, builtin, this]
  · exact (run_fail h2).elim
theorem ok_index {dst t x i ty pos after guard} : OpOk P φ ⟨dst, .index t x i, ty, pos, after, guard⟩ (opP P ⟨dst, .index t x i, ty, pos, after, guard⟩) := by
  intro E σ a w L σ' L' ⟨G, hG, hp⟩ hrun K Q hK
  obtain ⟨c', σ1, L1, h1, h2⟩ := run_bind hrun
  obtain ⟨rfl, hrel⟩ := peek1_sound hG h1
  obtain ⟨ci, σ1, L1, h3, h4⟩ := run_bind h2
  obtain ⟨rfl, hreli⟩ := peek1_sound hG h3
  split at h4
  · rename_i iv own s hi hu
    obtain ⟨hb, h4⟩ := run_guard h4
    simp only [Bool.and_eq_true, decide_eq_true_eq, Nat.blt_eq] at hb
    have hiv : ∃ o, ci = .tr o (.int .i64 iv) := by
      unfold intC at hi
      split at hi
      · rename_i o n
        simp only [Option.some.injEq] at hi
        subst hi
        exact ⟨o, rfl⟩
      · simp at hi
    obtain ⟨oi, rfl⟩ := hiv
    have hv := relStr hrel
    have hvi := relInt hreli
    refine wp_value (v := .int .u8 (s.data.getD iv.toNat 0).toNat) (w' := w) ?_ (hK _ _ (putT_sound hG hp (t := .int .u8 (s.data.getD iv.toNat 0).toNat) rfl h4))
    have hlt : iv.toNat < s.data.size := hb.2
    have e1 : s[iv.toNat]? = some (s.data[iv.toNat]'hlt) := by
      rw [getElem?_pos s iv.toNat hb.2]
      rfl
    have e2 : s.data.getD iv.toNat 0 = s.data[iv.toNat]'hlt := by rw [Array.getD_eq_getD_getElem?, Array.getElem?_eq_getElem hlt]; rfl
    simp [execOp, Instr.index, hv, hvi, asIntOf, run_underlying hu, hb.1, e1, e2]
  · exact (run_fail h4).elim
def valT : T → Value
  | .int k n => .int k n
  | .bool b => .bool b
  | .str s => .string s
  | _ => undef
theorem int_guard {ρ1 ρ2 : Operand} {op k x k' y t} : (eqGuard op t ρ1 ρ2 (.int k x) (.int k' y)).run P w = .ok () w := by
  unfold eqGuard
  cases op <;> simp
theorem int_bin {ρ1 ρ2 : Operand} {op k x y t u} (h : intBin op k x y = some u) : ((do eqGuard op t ρ1 ρ2 (.int k x) (.int k y); binOp op t (.int k x) (.int k y)) : Sem Value).run P w = .ok (valT u) w ∧ RelOwn w u noG (valT u) := by
  unfold intBin at h
  split at h <;> first
    | (simp at h; done)
    | (simp only [Option.some.injEq] at h; subst h; exact ⟨by simp [int_guard, binOp, Op.intArith, Op.intBits, Op.intCmp, valT], rfl⟩)
theorem str_bin {ρ1 ρ2 : Operand} {op x y t u} (h : strBin op x y = some u) : ((do eqGuard op t ρ1 ρ2 (.string x) (.string y); binOp op t (.string x) (.string y)) : Sem Value).run P w = .ok (valT u) w ∧ RelOwn w u noG (valT u) := by
  unfold strBin at h
  split at h <;> first
    | (simp at h; done)
    | (simp only [Option.some.injEq] at h; subst h; exact ⟨by simp [eqGuard, binOp, Op.stringOp, valT], rfl⟩)
/-- The array agrees with the cells from 'off' on. -/
def Fits (E : Env) (G : GG) (V : Nat → Ver) (w : World) (cs : List C) (off n : Nat) (X : Array Value) : Prop :=
  X.size = n ∧ ∀ k, k < n → ∃ c u, cs[off + k]? = some c ∧ X[k]? = some u ∧ RelC E G V w noG c u
theorem Fits.part {E G V cs off n X} (h : Fits E G V w cs off n X) (o m : Nat) (hm : o + m ≤ n) : Fits E G V w cs (off + o) m (X.extract o (o + m)) := by
  have hs := h.1
  refine ⟨by simp; omega, fun k hk => ?_⟩
  obtain ⟨c, u, h1, h2, h3⟩ := h.2 (o + k) (by omega)
  refine ⟨c, u, by rw [← h1]; congr 1; omega, ?_, h3⟩
  rw [Array.getElem?_extract]
  simp only [h2]
  rw [if_pos (by omega)]
/-- The value of type t agrees with the cells from 'off' on. -/
def FitV (P : Program) (E : Env) (G : GG) (V : Nat → Ver) (w : World) (t : TypeId) (cs : List C) (off : Nat) (v : Value) : Prop :=
  (isAg P t = true ∧ ∃ X, v = .agg X ∧ Fits E G V w cs off (szOf P t) X) ∨ (isAg P t = false ∧ ∃ c, cs[off]? = some c ∧ RelC E G V w noG c v)
theorem okTy_some {t} (h : okTy P t = true) : ∃ d i, P.underlying t = some d ∧ P.info? t = some i ∧ szOf P t = i.size := by
  unfold okTy at h
  cases hd : P.underlying t with
  | none => simp [hd] at h
  | some d =>
    have : ∃ i, P.info? t = some i := by
      unfold Program.underlying at hd
      cases e : P.info? t with
      | none => simp [e] at hd
      | some i => exact ⟨i, rfl⟩
    obtain ⟨i, hi⟩ := this
    exact ⟨d, i, rfl, hi, by simp [szOf, hi]⟩
theorem run_part {E G V cs off n X t o} (h : Fits E G V w cs off n X) (hok : okTy P t = true) (hle : o + szA P t ≤ n) : ∃ v, (part t X o).run P w = .ok v w ∧ FitV P E G V w t cs (off + o) v := by
  obtain ⟨d, i, hd, hi, hs⟩ := okTy_some hok
  cases hag : isAg P t with
  | true =>
    simp only [szA, hag, cond_true] at hle
    exact ⟨.agg (X.extract o (o + szOf P t)), by simp [part, run_isAgg hd, hag, run_sizeOf hi, hs], .inl ⟨hag, _, rfl, h.part o _ hle⟩⟩
  | false =>
    simp only [szA, hag, cond_false] at hle
    obtain ⟨c, u, h1, h2, h3⟩ := h.2 o (by omega)
    exact ⟨u, by simp [part, run_isAgg hd, hag, h2], .inr ⟨hag, c, h1, h3⟩⟩
theorem isAg_struct {t fs} (h : P.underlying t = some (.struct fs)) : isAg P t = true := by simp [isAg, h]
theorem eqAt_sound {E G V} {cs ds : List C} : ∀ (d e : Nat) (t : TypeId) (off : Nat) (b : Bool) (x y : Value), eqAt P d t cs ds off = some b → FitV P E G V w t cs off x → FitV P E G V w t ds off y →
    (Op.equalIn (d + e) t x y).run P w = .ok b w
  | 0, _, _, _, _, _, _, h, _, _ => by simp [eqAt] at h
  | d + 1, e, t, off, b, x, y, h, hx, hy => by
    have he : d + 1 + e = d + e + 1 := by omega
    rw [he]
    simp only [eqAt] at h
    split at h
    · rename_i k0 hu
      have hag : isAg P t = false := by simp [isAg, hu]
      rcases hx with ⟨h1, _⟩ | ⟨_, c, hc, hr⟩
      · rw [hag] at h1; cases h1
      rcases hy with ⟨h1, _⟩ | ⟨_, c', hc', hr'⟩
      · rw [hag] at h1; cases h1
      rw [hc, hc'] at h
      split at h
      · rename_i o1 k a o2 k' b' e1 e2
        obtain rfl := Option.some.inj e1
        obtain rfl := Option.some.inj e2
        rw [relInt hr, relInt hr']
        by_cases hk : k = k'
        · subst hk
          simp at h
          subst h
          exact run_equalIn_int w _ _ _ _ _ _ hu
        · simp [hk] at h
      · simp at h
    · rename_i hu
      have hag : isAg P t = false := by simp [isAg, hu]
      rcases hx with ⟨h1, _⟩ | ⟨_, c, hc, hr⟩
      · rw [hag] at h1; cases h1
      rcases hy with ⟨h1, _⟩ | ⟨_, c', hc', hr'⟩
      · rw [hag] at h1; cases h1
      rw [hc, hc'] at h
      split at h
      · rename_i o1 a o2 b' e1 e2
        obtain rfl := Option.some.inj e1
        obtain rfl := Option.some.inj e2
        rw [relBool hr, relBool hr']
        obtain rfl := Option.some.inj h
        exact run_equalIn_bool' w _ _ _ _ hu
      · simp at h
    · rename_i fs hu
      obtain ⟨X, rfl, hX⟩ : ∃ X, x = .agg X ∧ Fits E G V w cs off (szOf P t) X := by
        rcases hx with ⟨_, h⟩ | ⟨h1, _⟩
        · exact h
        · rw [isAg_struct hu] at h1; cases h1
      obtain ⟨Y, rfl, hY⟩ : ∃ Y, y = .agg Y ∧ Fits E G V w ds off (szOf P t) Y := by
        rcases hy with ⟨_, h⟩ | ⟨h1, _⟩
        · exact h
        · rw [isAg_struct hu] at h1; cases h1
      cases hst : P.stoodInHeld t with
      | true => simp [hst] at h
      | false =>
        have hf : P.fieldsOf t = fs := by simp [Program.fieldsOf, hu]
        rw [run_equalIn_struct w _ t X Y (by rw [hf]; exact hu) hst, hf]
        simp only [hst, cond_false] at h
        generalize fs.toList = l at h
        clear hu hf
        induction l generalizing b with
        | nil =>
          simp only [List.foldr_nil, Option.some.injEq] at h
          subst h
          simp [Op.eqFields]
        | cons f l ih =>
          simp only [List.foldr_cons] at h
          cases hg : (f.name != "_" && (okTy P f.type && Nat.ble (f.offset + szA P f.type) (szOf P t))) with
          | false => simp [hg] at h
          | true =>
            simp only [hg, cond_true] at h
            simp only [Bool.and_eq_true, bne_iff_ne, ne_eq] at hg
            obtain ⟨hn, hok, hle⟩ := hg
            have hle := Nat.le_of_ble_eq_true hle
            split at h
            · rename_i b1 b2 e1 e2
              obtain ⟨v1, hv1, hf1⟩ := run_part hX hok hle
              obtain ⟨v2, hv2, hf2⟩ := run_part hY hok hle
              have h1 := eqAt_sound d e f.type _ b1 v1 v2 e1 hf1 hf2
              have h2 := ih b2 e2
              simp only [Op.eqFields, ne_eq, hn, not_false_eq_true, if_true, Sem.run_bind, hv1, Result.andThen_ok, hv2, h1]
              obtain rfl := Option.some.inj h
              cases b1 with
              | true => simpa using h2
              | false => simp
            · simp at h
    · simp at h
theorem eqP_sound {E G V t x y b vx vy} {ρ1 ρ2 : Operand} (h : eqP P t x y = some b) (hx : RelRow E G V w (fun _ => noG) x vx) (hy : RelRow E G V w (fun _ => noG) y vy) :
    ((do eqGuard .eql t ρ1 ρ2 vx vy; binOp .eql t vx vy) : Sem Value).run P w = .ok (.bool b) w ∧ ((do eqGuard .neq t ρ1 ρ2 vx vy; binOp .neq t vx vy) : Sem Value).run P w = .ok (.bool !b) w := by
  unfold eqP at h
  split at h
  · rename_i cs ds
    cases hg : P.eqGuardType P.depth t with
    | true => simp [hg] at h
    | false =>
      simp only [hg, cond_false] at h
      split at h
      · rename_i fs hu
        cases hl : (Nat.beq cs.length (szOf P t) && Nat.beq ds.length (szOf P t)) with
        | false => simp [hl] at h
        | true =>
          simp only [hl, cond_true] at h
          simp only [Bool.and_eq_true] at hl
          have l1 := beq_eq hl.1
          have l2 := beq_eq hl.2
          obtain ⟨X, rfl, hX⟩ := hx
          obtain ⟨Y, rfl, hY⟩ := hy
          have fX : Fits E G V w cs 0 (szOf P t) X := ⟨by rw [hX.1, l1], fun k hk => by
            obtain ⟨u, hu', hr⟩ := hX.2 k cs[k] (List.getElem?_eq_getElem (by omega))
            exact ⟨_, u, by rw [Nat.zero_add]; exact List.getElem?_eq_getElem (by omega), hu', hr⟩⟩
          have fY : Fits E G V w ds 0 (szOf P t) Y := ⟨by rw [hY.1, l2], fun k hk => by
            obtain ⟨u, hu', hr⟩ := hY.2 k ds[k] (List.getElem?_eq_getElem (by omega))
            exact ⟨_, u, by rw [Nat.zero_add]; exact List.getElem?_eq_getElem (by omega), hu', hr⟩⟩
          have := eqAt_sound 20 9980 t 0 b _ _ h (.inl ⟨isAg_struct hu, X, rfl, fX⟩) (.inl ⟨isAg_struct hu, Y, rfl, fY⟩)
          exact ⟨by simp [run_eqGuard_agg w .eql t ρ1 ρ2 X Y hg, run_eql_struct, this], by simp [run_eqGuard_agg w .neq t ρ1 ρ2 X Y hg, run_neq_struct, this]⟩
      · simp at h
  · rename_i o1 p o2 q
    split at h
    · rename_i hu
      obtain rfl := Option.some.inj h
      have e1 := relBool (show RelC E G V w noG (.tr o1 (.bool p)) vx from hx)
      have e2 := relBool (show RelC E G V w noG (.tr o2 (.bool q)) vy from hy)
      subst e1 e2
      exact ⟨by simp [eqGuard, binOp, Op.equal, Op.maxDepth, run_equalIn_bool' w 9999 t p q hu], by simp [eqGuard, binOp, Op.equal, Op.maxDepth, run_equalIn_bool' w 9999 t p q hu]⟩
    · simp at h
  · simp at h
theorem binP_sound {E G V t x y op vx vy u} {ρ1 ρ2 : Operand} {σ σ' : St} {L L' : Log} (h : (binP P op t x y).run φ σ L = some (u, σ', L')) (hx : RelRow E G V w (fun _ => noG) x vx) (hy : RelRow E G V w (fun _ => noG) y vy) :
    σ' = σ ∧ ∃ v, ((do eqGuard op t ρ1 ρ2 vx vy; binOp op t vx vy) : Sem Value).run P w = .ok v w ∧ RelOwn w u noG v := by
  unfold binP at h
  split at h
  · rename_i o1 k a o2 k' b
    have e1 := relInt (show RelC E G V w noG (.tr o1 (.int k a)) vx from hx)
    have e2 := relInt (show RelC E G V w noG (.tr o2 (.int k' b)) vy from hy)
    subst e1 e2
    by_cases hk : k = k'
    · subst hk
      simp only [decide_true, cond_true] at h
      split at h
      · obtain ⟨hb, h⟩ := run_guard h
        have := run_ret h
        simp only [Prod.mk.injEq] at this
        obtain ⟨rfl, rfl, rfl⟩ := this
        have hb0 : ¬ b = 0 := by simpa using hb
        exact ⟨rfl, .int k (k.wrap (a.tdiv b)), by simp [int_guard, binOp, Op.intDiv, hb0], rfl⟩
      · obtain ⟨hb, h⟩ := run_guard h
        have := run_ret h
        simp only [Prod.mk.injEq] at this
        obtain ⟨rfl, rfl, rfl⟩ := this
        have hb0 : ¬ b = 0 := by simpa using hb
        exact ⟨rfl, .int k (a.tmod b), by simp [int_guard, binOp, Op.intDiv, hb0], rfl⟩
      · split at h
        · rename_i u' hu
          have := run_ret h
          simp only [Prod.mk.injEq] at this
          obtain ⟨rfl, rfl, rfl⟩ := this
          obtain ⟨h1, h2⟩ := int_bin (w := w) (P := P) (ρ1 := ρ1) (ρ2 := ρ2) (t := t) hu
          exact ⟨rfl, _, h1, h2⟩
        · exact (run_fail h).elim
    · simp only [hk, decide_false, cond_false] at h
      exact (run_fail h).elim
  · rename_i o1 a o2 b
    have e1 := relStr (show RelC E G V w noG (.tr o1 (.str a)) vx from hx)
    have e2 := relStr (show RelC E G V w noG (.tr o2 (.str b)) vy from hy)
    subst e1 e2
    split at h
    · rename_i u' hu
      have := run_ret h
      simp only [Prod.mk.injEq] at this
      obtain ⟨rfl, rfl, rfl⟩ := this
      obtain ⟨h1, h2⟩ := str_bin (w := w) (P := P) (ρ1 := ρ1) (ρ2 := ρ2) (t := t) hu
      exact ⟨rfl, _, h1, h2⟩
    · exact (run_fail h).elim
  · split at h
    · rename_i b hb
      have := run_ret h
      simp only [Prod.mk.injEq] at this
      obtain ⟨rfl, rfl, rfl⟩ := this
      exact ⟨rfl, _, (eqP_sound hb hx hy).1, rfl⟩
    · rename_i b hb
      have := run_ret h
      simp only [Prod.mk.injEq] at this
      obtain ⟨rfl, rfl, rfl⟩ := this
      exact ⟨rfl, _, (eqP_sound hb hx hy).2, rfl⟩
    · exact (run_fail h).elim
theorem ok_binOp {dst op t x y yt ty pos after guard} : OpOk P φ ⟨dst, .binOp op t x y yt, ty, pos, after, guard⟩ (opP P ⟨dst, .binOp op t x y yt, ty, pos, after, guard⟩) := by
  intro E σ a w L σ' L' ⟨G, hG, hp⟩ hrun K Q hK
  obtain ⟨rx, σ1, L1, h1, h2⟩ := run_bind hrun
  obtain ⟨rfl, hx⟩ := peekRow_sound hG h1
  obtain ⟨ry, σ1, L1, h3, h4⟩ := run_bind h2
  obtain ⟨rfl, hy⟩ := peekRow_sound hG h3
  obtain ⟨u, σ1, L1, h5, h6⟩ := run_bind h4
  obtain ⟨rfl, v, hv, hr⟩ := binP_sound (ρ1 := x) (ρ2 := y) h5 hx hy
  exact wp_value (v := v) (w' := w) (run_v hv) (hK _ _ (putT_sound hG hp hr h6))
end
end Go.Mach
