/- What a state of the abstract machine says of a frame and a world, and how that is kept by each change. Conditions: none (lemmas). -/
import Derived.Test.YtkbhcdenfigpoaaM1
import Derived.Orders
set_option linter.all false
namespace Go.Mach
abbrev Gh := Path → Option (Addr × Nat)
/-- A cell whose memory nobody writes. -/
def RelIm (w : World) (N : Nat → Prop) : T → Value → Prop
  | .int k n, v => v = .int k n
  | .bool b, v => v = .bool b
  | .str s, v => v = .string s
  | .hole, v => v.oneCell' = true
  | .lent _ _, v => v.oneCell' = true
  | .arr m n f, v => ∃ A cap, v = .slice A n cap ∧ n ≤ cap ∧ (0 < n → ∃ b off, A = some ⟨b, off, none⟩ ∧ N b ∧
      ∀ j, j < n → ∀ k, k < m → ∃ u, w.cell? ⟨b, off + (j * m + k), none⟩ = some u ∧ RelIm w N (f j k) u)
/-- A cell whose memory the root owns that it lies in: 'g' tells the arrays' places. -/
def RelOwn (w : World) : T → Gh → Value → Prop
  | .int k n, _, v => v = .int k n
  | .bool b, _, v => v = .bool b
  | .str s, _, v => v = .string s
  | .hole, _, v => v.oneCell' = true
  | .lent m n, g, v => (g [] = none ∧ n = 0 ∧ v = .slice none 0 0) ∨ ∃ b off cap, g [] = some (⟨b, off, none⟩, cap) ∧ v = .slice (some ⟨b, off, none⟩) n cap ∧ (n ≤ cap ∧ 0 < m)
  | .arr m n f, g, v => (g [] = none ∧ n = 0 ∧ v = .slice none 0 0) ∨
      ∃ b off cap cs e, g [] = some (⟨b, off, none⟩, cap) ∧ v = .slice (some ⟨b, off, none⟩) n cap ∧ (n ≤ cap ∧ 0 < m) ∧ w.heap[b]? = some (.cells cs e (0, 0)) ∧ off + cap * m ≤ cs.size ∧
        ∀ j, j < n → ∀ k, k < m → ∃ u, cs[off + (j * m + k)]? = some u ∧ RelOwn w (f j k) (fun q => g (j :: k :: q)) u
structure Env where
  w0 : World
  D : Nat → Prop
  nt : Nat
  x : Nat → Value
  xb : Nat → Option (Addr × Nat)
def Env.N (E : Env) (b : Nat) : Prop := b < E.w0.heap.size ∧ ¬ E.D b
abbrev GG := Nat → Gh
def notPark (r : Nat) : Prop := r % 4 ≠ 3
def RelPt (E : Env) (G : GG) (V : Nat → Ver) : Pt → Value → Prop
  | .ptr r ver p m j k, v => ∃ b o, v = .pointer (some ⟨b, o, none⟩) ∧ (notPark r ∧ (p = [] → r % 4 = 1)) ∧ ver ≤ V r p ∧ (V r p = ver → ∃ off cap, G r p = some (⟨b, off, none⟩, cap) ∧ o = off + (j * m + k))
  | .pim m g, v => ∃ b off, v = .pointer (some ⟨b, off, none⟩) ∧ ∀ i, i < m → E.N b ∧ ∃ u, E.w0.cell? ⟨b, off + i, none⟩ = some u ∧ RelIm E.w0 E.N (g i) u
def RelC (E : Env) (G : GG) (V : Nat → Ver) (w : World) (g : Gh) : C → Value → Prop
  | .tr true t, v => RelOwn w t g v
  | .tr false t, v => RelIm E.w0 E.N t v
  | .ref r ver p m s n, v => ∃ A cap, v = .slice A n cap ∧ n ≤ cap ∧ (notPark r ∧ p ≠ []) ∧ ver ≤ V r p ∧ (V r p = ver → (G r p = none ∧ n = 0 ∧ s = 0 ∧ A = none ∧ cap = 0) ∨
      ∃ b off c, G r p = some (⟨b, off, none⟩, c) ∧ (s = 0 → A = some ⟨b, off, none⟩ ∧ cap = c) ∧ (0 < n → A = some ⟨b, off + s * m, none⟩))
  | .pt x, v => RelPt E G V x v
  | .fn f caps, v => ∃ vs : Array Value, v = .func (.func f) #[] vs ∧ vs.size = caps.length ∧ ∀ (i : Nat) x, caps[i]? = some x → ∃ u, vs[i]? = some u ∧ RelPt E G V x u
  | .dead, v => v.oneCell' = true
def RelCs (E : Env) (G : GG) (V : Nat → Ver) (w : World) (g : Nat → Gh) (cs : List C) (vs : Array Value) : Prop :=
  vs.size = cs.length ∧ ∀ (k : Nat) c, cs[k]? = some c → ∃ u, vs[k]? = some u ∧ RelC E G V w (g k) c u
def RelRow (E : Env) (G : GG) (V : Nat → Ver) (w : World) (g : Nat → Gh) : Row → Value → Prop
  | (false, []), v => v = undef
  | (false, [c]), v => RelC E G V w (g 0) c v
  | (false, _ :: _ :: _), _ => False
  | (true, cs), v => ∃ vs, v = .agg vs ∧ RelCs E G V w g cs vs
def RelRows (E : Env) (G : GG) (V : Nat → Ver) (w : World) (g : Gh) : List Row → Value → Prop
  | [], _ => True
  | [row], v => RelRow E G V w (fun k q => g (0 :: k :: q)) row v
  | r :: r' :: rs, v => ∃ vs : Array Value, v = .tuple vs ∧ vs.size = (r :: r' :: rs).length ∧ ∀ (i : Nat) row, (r :: r' :: rs)[i]? = some row → ∃ u, vs[i]? = some u ∧ RelRow E G V w (fun k q => g (i :: k :: q)) row u
def noG : Gh := fun _ => none
/-- The state speaks truly of the frame and the world. -/
structure Rel (E : Env) (σ : St) (a : Act) (w : World) (G : GG) : Prop where
  nd : (σ.map (·.1)).Nodup
  inj : ∀ r p r' p' ad c ad' c', G r p = some (ad, c) → G r' p' = some (ad', c') → ad.block = ad'.block → r = r' ∧ p = p'
  rng : ∀ r p ad c, G r p = some (ad, c) → (E.w0.heap.size ≤ ad.block ∨ E.D ad.block) ∧ ad.block < w.heap.size
  os : w.os = E.w0.os
  tape : w.tape = E.w0.tape
  output : w.output = E.w0.output
  size : E.w0.heap.size ≤ w.heap.size
  kept : ∀ b, E.N b → w.heap[b]? = E.w0.heap[b]?
  slots : ∀ t, RelRows E G (fun r => (σ.get r).ver) w (G (slot t)) (σ.get (slot t)).rows (a.tmps.getD t undef)
  boxes : ∀ t, (σ.get (box t)).rows = [] ∨ ∃ row b cs e, (σ.get (box t)).rows = [row] ∧ G (box t) [] = some (⟨b, 0, none⟩, 1) ∧ w.heap[b]? = some (.cells cs e (0, 0)) ∧
    RelCs E G (fun r => (σ.get r).ver) w (fun k q => G (box t) (0 :: k :: q)) row.2 cs
  exts : ∀ t, RelRows E G (fun r => (σ.get r).ver) w (G (ext t)) (σ.get (ext t)).rows (E.x t)
  xbox : ∀ t, E.nt ≤ t → G (box t) [] = E.xb t
  defers : a.defers = []
  tm : a.tmps.size = E.nt
  here : ∀ t, σ.has (slot t) = true → t < E.nt
theorem cutT_in {s n : Nat} {f : Nat → Nat → T} {j : Nat} (k : Nat) (h : j < n) : cutT s n f j k = f (s + j) k := by
  have : Nat.blt j n = true := by rw [Nat.blt_eq]; exact h
  simp only [cutT, this, cond_true]
theorem bump_nil (v : Ver) (p : Path) : bump [] v p = v p + 1 := by
  unfold bump touch
  rfl
theorem lenLe_pre : ∀ {q p : Path}, q <+: p → lenLe q p = true
  | [], _, _ => by simp [lenLe]
  | a :: q, [], h => by simp at h
  | a :: q, b :: p, h => by
    rw [List.cons_prefix_cons] at h
    show lenLe q p = true
    exact lenLe_pre h.2
theorem touch_pre {q p : Path} (h : q <+: p) : touch q p = true := by
  match q, p, h with
  | [], _, _ => unfold touch; rfl
  | [_], [], h => simp at h
  | [_], _ :: _, _ => unfold touch; rfl
  | _ :: _ :: _, [], h => simp at h
  | _ :: _ :: _, [_], h => simp at h
  | i :: k :: q, i' :: k' :: p, h =>
    rw [List.cons_prefix_cons, List.cons_prefix_cons] at h
    obtain ⟨rfl, rfl, h⟩ := h
    simp [touch, lenLe_pre h]
theorem bump_le (q : Path) (v : Ver) (p : Path) : v p ≤ bump q v p := by
  unfold bump
  cases touch q p <;> simp
theorem bump_eq {q : Path} {v : Ver} {p : Path} (h : bump q v p = v p) : ¬ q <+: p := fun hp => by
  unfold bump at h
  rw [touch_pre hp] at h
  simp at h
theorem lenLt_pre : ∀ {q p : Path}, q <+: p → q ≠ p → lenLt q p = true
  | [], [], _, h => absurd rfl h
  | [], _ :: _, _, _ => rfl
  | a :: q, [], h, _ => by simp at h
  | a :: q, b :: p, h, hne => by
    rw [List.cons_prefix_cons] at h
    obtain ⟨rfl, h⟩ := h
    show lenLt q p = true
    exact lenLt_pre h fun e => hne (by rw [e])
theorem deep_pre {q p : Path} (h : q <+: p) (hne : q ≠ p) : deep q p = true := by
  match q, p, h, hne with
  | [], [], _, hne => exact absurd rfl hne
  | [], _ :: _, _, _ => rfl
  | [_], [], h, _ => simp at h
  | [_], _ :: _, _, _ => rfl
  | _ :: _ :: _, [], h, _ => simp at h
  | _ :: _ :: _, [_], h, _ => simp at h
  | i :: k :: q, i' :: k' :: p, h, hne =>
    rw [List.cons_prefix_cons, List.cons_prefix_cons] at h
    obtain ⟨rfl, rfl, h⟩ := h
    have := lenLt_pre h fun e => hne (by rw [e])
    simp [deep, this]
theorem bumpD_le (q : Path) (v : Ver) (p : Path) : v p ≤ bumpD q v p := by
  unfold bumpD
  cases deep q p <;> simp
theorem bumpD_eq {q : Path} {v : Ver} {p : Path} (h : bumpD q v p = v p) : ¬ (q <+: p ∧ q ≠ p) := fun ⟨hp, hne⟩ => by
  unfold bumpD at h
  rw [deep_pre hp hne] at h
  simp at h
theorem lenLe_iff : ∀ {q p : Path}, lenLe q p = true ↔ q.length ≤ p.length
  | [], _ => by simp [lenLe]
  | _ :: _, [] => by simp [lenLe]
  | _ :: q, _ :: p => by simp [lenLe, lenLe_iff (q := q) (p := p)]
/-! ### states as lists -/
theorem beqF {a b : Nat} (h : a ≠ b) : Nat.beq a b = false := by
  cases e : Nat.beq a b
  · rfl
  · exact absurd (Nat.eq_of_beq_eq_true e) h
theorem beqT (a : Nat) : Nat.beq a a = true := Nat.beq_refl a
theorem beq_eq {a b : Nat} (h : Nat.beq a b = true) : a = b := Nat.eq_of_beq_eq_true h
theorem get_set (σ : St) (r r' : Nat) (c : Ct) : (σ.set r c).get r' = if r = r' ∧ σ.has r = true then c else σ.get r' := by
  induction σ with
  | nil => simp [St.set, St.get, St.has]
  | cons x σ ih =>
    obtain ⟨r0, c0⟩ := x
    by_cases h : r0 = r
    · subst h
      by_cases h' : r0 = r'
      · subst h'; simp [St.set, St.get, St.has, beqT]
      · simp [St.set, St.get, St.has, h', beqT, beqF h']
    · by_cases h' : r0 = r'
      · subst h'
        have h2 : ¬ r = r0 := fun e => h e.symm
        simp [St.set, St.get, beqF h, h2, beqT]
      · simp [St.set, St.get, St.has, beqF h, beqF h', ih]
theorem keys_set (σ : St) (r : Nat) (c : Ct) : (σ.set r c).map (·.1) = σ.map (·.1) := by
  induction σ with
  | nil => rfl
  | cons x σ ih =>
    obtain ⟨r0, c0⟩ := x
    cases h : Nat.beq r0 r <;> simp [St.set, h, ih]
theorem has_iff (σ : St) (r : Nat) : σ.has r = true ↔ r ∈ σ.map (·.1) := by
  induction σ with
  | nil => simp [St.has]
  | cons x σ ih =>
    obtain ⟨r0, c0⟩ := x
    by_cases h : r0 = r
    · subst h; simp [St.has, beqT]
    · have h2 : ¬ r = r0 := fun e => h e.symm
      simp only [St.has, beqF h, cond_false, ih, List.map_cons, List.mem_cons, h2, false_or]
theorem get_absent (σ : St) (r : Nat) (h : σ.has r = false) : σ.get r = ⟨z0, []⟩ := by
  induction σ with
  | nil => rfl
  | cons x σ ih =>
    obtain ⟨r0, c0⟩ := x
    cases e : Nat.beq r0 r
    · simp [St.has, e] at h; simp [St.get, e, ih h]
    · simp [St.has, e] at h
/-- The change of ghosts and versions under which what is said of references stays true. -/
def Good (G : GG) (V : Nat → Ver) (G' : GG) (V' : Nat → Ver) : Prop := ∀ r, notPark r → ∀ p, V r p ≤ V' r p ∧ (V' r p = V r p → G' r p = G r p)
theorem Good.refl (G : GG) (V : Nat → Ver) : Good G V G V := fun _ _ _ => ⟨Nat.le_refl _, fun _ => rfl⟩
theorem Good.trans {G V G' V' G'' V''} (h : Good G V G' V') (k : Good G' V' G'' V'') : Good G V G'' V'' := fun r hr p =>
  ⟨Nat.le_trans (h r hr p).1 (k r hr p).1, fun e => by
    have h1 := (h r hr p).1
    have k1 := (k r hr p).1
    rw [(k r hr p).2 (by omega), (h r hr p).2 (by omega)]⟩
theorem RelPt.good {E G V G' V' x v} (h : Good G V G' V') (hx : RelPt E G V x v) : RelPt E G' V' x v := by
  cases x with
  | pim m g => exact hx
  | ptr r ver p m j k =>
    obtain ⟨b, o, hv, h0, h1, h2⟩ := hx
    obtain ⟨g1, g2⟩ := h r h0.1 p
    refine ⟨b, o, hv, h0, by omega, fun e => ?_⟩
    rw [g2 (by omega)]
    exact h2 (by omega)
theorem RelC.good {E G V G' V' w g c v} (h : Good G V G' V') (hx : RelC E G V w g c v) : RelC E G' V' w g c v := by
  cases c with
  | tr o t => cases o <;> exact hx
  | dead => exact hx
  | pt x => exact RelPt.good h hx
  | fn f caps =>
    obtain ⟨vs, h1, h2, h3⟩ := hx
    refine ⟨vs, h1, h2, fun i x hi => ?_⟩
    obtain ⟨u, hu, hr⟩ := h3 i x hi
    exact ⟨u, hu, RelPt.good h hr⟩
  | ref r ver p m s n =>
    obtain ⟨A, cap, h1, h2, h3, h4, h5⟩ := hx
    obtain ⟨g1, g2⟩ := h r h3.1 p
    refine ⟨A, cap, h1, h2, h3, by omega, fun e => ?_⟩
    rw [g2 (by omega)]
    exact h5 (by omega)
theorem RelCs.good {E G V G' V' w g cs vs} (h : Good G V G' V') (hx : RelCs E G V w g cs vs) : RelCs E G' V' w g cs vs :=
  ⟨hx.1, fun k c hk => let ⟨u, hu, hr⟩ := hx.2 k c hk; ⟨u, hu, RelC.good h hr⟩⟩
theorem RelRow.good {E G V G' V' w g row v} (h : Good G V G' V') (hx : RelRow E G V w g row v) : RelRow E G' V' w g row v := by
  obtain ⟨ag, cs⟩ := row
  cases ag with
  | true => obtain ⟨vs, e, hc⟩ := hx; exact ⟨vs, e, hc.good h⟩
  | false => match cs, hx with
    | [], hx => exact hx
    | [c], hx => exact RelC.good h hx
theorem RelRows.good {E G V G' V' w g rows v} (h : Good G V G' V') (hx : RelRows E G V w g rows v) : RelRows E G' V' w g rows v := by
  match rows, hx with
  | [], _ => trivial
  | [row], hx => exact RelRow.good (row := row) (g := fun k q => g (0 :: k :: q)) h hx
  | r :: r' :: rs, hx =>
    obtain ⟨vs, e, hs, hi⟩ := hx
    exact ⟨vs, e, hs, fun i row hr => let ⟨u, hu, h1⟩ := hi i row hr; ⟨u, hu, RelRow.good h h1⟩⟩
/-! ### a change of the world -/
theorem RelOwn.ext {w w' : World} {t : T} {g : Gh} {v : Value} (h : RelOwn w t g v) (hb : ∀ p ad c, g p = some (ad, c) → w'.heap[ad.block]? = w.heap[ad.block]?) : RelOwn w' t g v := by
  induction t generalizing g v with
  | int | bool | str | hole | lent => exact h
  | arr m n f ih =>
    rcases h with h | ⟨b, off, cap, cs, e, hg, hv, hn, hc, hs, hh⟩
    · exact .inl h
    · refine .inr ⟨b, off, cap, cs, e, hg, hv, hn, (hb _ _ _ hg).trans hc, hs, fun j hj k hk => ?_⟩
      obtain ⟨u, hu, hr⟩ := hh j hj k hk
      exact ⟨u, hu, ih j k hr fun p ad c hp => hb _ _ _ hp⟩
theorem RelC.ext {E G V w w' g c v} (h : RelC E G V w g c v) (hb : ∀ p ad c, g p = some (ad, c) → w'.heap[ad.block]? = w.heap[ad.block]?) : RelC E G V w' g c v := by
  cases c with
  | tr o t => cases o with
    | true => exact RelOwn.ext h hb
    | false => exact h
  | _ => exact h
theorem RelCs.ext {E G V w w' g cs vs} (h : RelCs E G V w g cs vs) (hb : ∀ k p ad c, g k p = some (ad, c) → w'.heap[ad.block]? = w.heap[ad.block]?) : RelCs E G V w' g cs vs :=
  ⟨h.1, fun k c hk => let ⟨u, hu, hr⟩ := h.2 k c hk; ⟨u, hu, RelC.ext hr (hb k)⟩⟩
theorem RelRow.ext {E G V w w' g row v} (h : RelRow E G V w g row v) (hb : ∀ k p ad c, g k p = some (ad, c) → w'.heap[ad.block]? = w.heap[ad.block]?) : RelRow E G V w' g row v := by
  obtain ⟨ag, cs⟩ := row
  cases ag with
  | true => obtain ⟨vs, e, hc⟩ := h; exact ⟨vs, e, hc.ext hb⟩
  | false => match cs, h with
    | [], hx => exact hx
    | [c], hx => exact RelC.ext hx (hb 0)
theorem RelRows.ext {E G V w w' g rows v} (h : RelRows E G V w g rows v) (hb : ∀ p ad c, g p = some (ad, c) → w'.heap[ad.block]? = w.heap[ad.block]?) : RelRows E G V w' g rows v := by
  match rows, h with
  | [], _ => trivial
  | [row], hx => exact RelRow.ext (row := row) (g := fun k q => g (0 :: k :: q)) hx fun k p ad c hp => hb _ _ _ hp
  | r :: r' :: rs, hx =>
    obtain ⟨vs, e, hs, hi⟩ := hx
    exact ⟨vs, e, hs, fun i row hr => let ⟨u, hu, h1⟩ := hi i row hr; ⟨u, hu, RelRow.ext h1 fun k p ad c hp => hb _ _ _ hp⟩⟩
/-- The world has turned nowhere where the state owns, nor where nobody writes. -/
theorem Rel.world {E σ a w w' G} (h : Rel E σ a w G) (ho : w'.os = w.os) (ht : w'.tape = w.tape) (hp : w'.output = w.output) (hs : w.heap.size ≤ w'.heap.size)
    (hn : ∀ b, E.N b → w'.heap[b]? = w.heap[b]?) (hb : ∀ r p ad c, G r p = some (ad, c) → w'.heap[ad.block]? = w.heap[ad.block]?) : Rel E σ a w' G where
  nd := h.nd
  inj := h.inj
  rng := fun r p ad c hg => ⟨(h.rng r p ad c hg).1, Nat.lt_of_lt_of_le (h.rng r p ad c hg).2 hs⟩
  os := ho.trans h.os
  tape := ht.trans h.tape
  output := hp.trans h.output
  size := Nat.le_trans h.size hs
  kept := fun b hbN => (hn b hbN).trans (h.kept b hbN)
  slots := fun t => (h.slots t).ext fun p ad c hg => hb _ _ _ _ hg
  boxes := fun t => (h.boxes t).imp id fun ⟨row, b, cs, e, h1, h2, h3, h4⟩ => ⟨row, b, cs, e, h1, h2, (hb _ _ _ _ h2).trans h3, h4.ext fun k p ad c hg => hb _ _ _ _ hg⟩
  exts := fun t => (h.exts t).ext fun p ad c hg => hb _ _ _ _ hg
  xbox := h.xbox
  defers := h.defers
  tm := h.tm
  here := h.here
/-- The world has turned nowhere where a slot or a box owns, nor where nobody writes. -/
theorem Rel.world' {E σ a w w' G} (h : Rel E σ a w G) (ho : w'.os = w.os) (ht : w'.tape = w.tape) (hp : w'.output = w.output) (hs : w.heap.size ≤ w'.heap.size)
    (hn : ∀ b, E.N b → w'.heap[b]? = w.heap[b]?) (hb : ∀ r p ad c, notPark r → G r p = some (ad, c) → w'.heap[ad.block]? = w.heap[ad.block]?) : Rel E σ a w' G where
  nd := h.nd
  inj := h.inj
  rng := fun r p ad c hg => ⟨(h.rng r p ad c hg).1, Nat.lt_of_lt_of_le (h.rng r p ad c hg).2 hs⟩
  os := ho.trans h.os
  tape := ht.trans h.tape
  output := hp.trans h.output
  size := Nat.le_trans h.size hs
  kept := fun b hbN => (hn b hbN).trans (h.kept b hbN)
  slots := fun t => (h.slots t).ext fun p ad c hg => hb _ _ _ _ (by unfold notPark slot; omega) hg
  boxes := fun t => (h.boxes t).imp id fun ⟨row, b, cs, e, h1, h2, h3, h4⟩ => ⟨row, b, cs, e, h1, h2, (hb _ _ _ _ (by unfold notPark box; omega) h2).trans h3, h4.ext fun k p ad c hg => hb _ _ _ _ (by unfold notPark box; omega) hg⟩
  exts := fun t => (h.exts t).ext fun p ad c hg => hb _ _ _ _ (by unfold notPark ext; omega) hg
  xbox := h.xbox
  defers := h.defers
  tm := h.tm
  here := h.here
/-- The world has grown. -/
structure Grew (w w' : World) : Prop where
  os : w'.os = w.os
  tape : w'.tape = w.tape
  output : w'.output = w.output
  size : w.heap.size ≤ w'.heap.size
  old : ∀ b, b < w.heap.size → w'.heap[b]? = w.heap[b]?
theorem Grew.refl (w : World) : Grew w w := ⟨rfl, rfl, rfl, Nat.le_refl _, fun _ _ => rfl⟩
theorem Rel.grew {E σ a w w' G} (h : Rel E σ a w G) (k : Grew w w') : Rel E σ a w' G :=
  h.world k.os k.tape k.output k.size (fun b hb => k.old b (Nat.lt_of_lt_of_le hb.1 h.size)) fun r p ad c hg => k.old _ (h.rng r p ad c hg).2
/-! ### the ghosts in flight ('park') -/
theorem np_slot (t : Nat) : notPark (slot t) := by unfold notPark slot; omega
theorem np_box (t : Nat) : notPark (box t) := by unfold notPark box; omega
theorem np_ext (t : Nat) : notPark (ext t) := by unfold notPark ext; omega
theorem ext_inj {t u : Nat} (h : ext t = ext u) : t = u := by unfold ext at h; omega
theorem slot_ne_ext (t u : Nat) : slot t ≠ ext u := by unfold slot ext; omega
theorem box_ne_ext (t u : Nat) : box t ≠ ext u := by unfold box ext; omega
theorem ext_ne_park (t u : Nat) : ext t ≠ park u := by unfold ext park; omega
theorem not_np_park (t : Nat) : ¬ notPark (park t) := by unfold notPark park; omega
theorem slot_inj {t u : Nat} (h : slot t = slot u) : t = u := by unfold slot at h; omega
theorem box_inj {t u : Nat} (h : box t = box u) : t = u := by unfold box at h; omega
theorem park_inj {t u : Nat} (h : park t = park u) : t = u := by unfold park at h; omega
theorem slot_ne_box (t u : Nat) : slot t ≠ box u := by unfold slot box; omega
theorem slot_ne_park (t u : Nat) : slot t ≠ park u := by unfold slot park; omega
theorem box_ne_park (t u : Nat) : box t ≠ park u := by unfold box park; omega
theorem np_ne_park {r : Nat} (h : notPark r) (u : Nat) : r ≠ park u := fun e => not_np_park u (e ▸ h)
def GInj (G : GG) : Prop := ∀ r p r' p' ad c ad' c', G r p = some (ad, c) → G r' p' = some (ad', c') → ad.block = ad'.block → r = r' ∧ p = p'
def GRng (E : Env) (w : World) (G : GG) : Prop := ∀ r p ad c, G r p = some (ad, c) → (E.w0.heap.size ≤ ad.block ∨ E.D ad.block) ∧ ad.block < w.heap.size
/-- What is in flight may be told anew. -/
theorem Rel.parks {E σ a w G} (h : Rel E σ a w G) (G' : GG) (hnp : ∀ r, notPark r → G' r = G r) (hi : GInj G') (hr : GRng E w G') : Rel E σ a w G' where
  nd := h.nd
  inj := hi
  rng := hr
  os := h.os
  tape := h.tape
  output := h.output
  size := h.size
  kept := h.kept
  slots := fun t => by
    rw [hnp _ (np_slot t)]
    exact (h.slots t).good fun r hr p => ⟨Nat.le_refl _, fun _ => by rw [hnp r hr]⟩
  boxes := fun t => by
    rw [hnp _ (np_box t)]
    exact (h.boxes t).imp id fun ⟨row, b, cs, e, h1, h2, h3, h4⟩ => ⟨row, b, cs, e, h1, h2, h3, h4.good fun r hr p => ⟨Nat.le_refl _, fun _ => by rw [hnp r hr]⟩⟩
  exts := fun t => by
    rw [hnp _ (np_ext t)]
    exact (h.exts t).good fun r hr p => ⟨Nat.le_refl _, fun _ => by rw [hnp r hr]⟩
  xbox := fun t ht => by rw [hnp _ (np_box t)]; exact h.xbox t ht
  defers := h.defers
  tm := h.tm
  here := h.here
theorem Good.parks {G : GG} {V : Nat → Ver} (G' : GG) (hnp : ∀ r, notPark r → G' r = G r) : Good G V G' V := fun r hr p => ⟨Nat.le_refl _, fun _ => by rw [hnp r hr]⟩
/-- Nothing is in flight there any more. -/
def clr (G : GG) (r : Nat) : GG := fun r' => if r' = r then noG else G r'
theorem clr_some {G : GG} {r r' : Nat} {p : Path} {x} (h : clr G r r' p = some x) : r' ≠ r ∧ G r' p = some x := by
  unfold clr at h
  split at h
  · simp [noG] at h
  · exact ⟨‹_›, h⟩
theorem Rel.clear {E σ a w G} (h : Rel E σ a w G) (x : Nat) : Rel E σ a w (clr G (park x)) :=
  h.parks _ (fun r hr => by simp [clr, np_ne_park hr x])
    (fun r p r' p' ad c ad' c' h1 h2 => h.inj _ _ _ _ _ _ _ _ (clr_some h1).2 (clr_some h2).2)
    (fun r p ad c h1 => h.rng _ _ _ _ (clr_some h1).2)
/-! ### a slot is written -/
def mvG (G : GG) (r s : Nat) : GG := fun r' => if r' = r then G s else if r' = s then noG else G r'
theorem mvG_some {G : GG} {r s r' : Nat} {p : Path} {x} (h : mvG G r s r' p = some x) : (r' = r ∧ G s p = some x) ∨ (r' ≠ r ∧ r' ≠ s ∧ G r' p = some x) := by
  unfold mvG at h
  split at h
  · exact .inl ⟨‹_›, h⟩
  · split at h
    · simp [noG] at h
    · exact .inr ⟨‹_›, ‹_›, h⟩
theorem mvG_inj {G : GG} (h : GInj G) (r s : Nat) : GInj (mvG G r s) := by
  intro r1 p1 r2 p2 ad c ad' c' h1 h2 hb
  rcases mvG_some h1 with ⟨e1, g1⟩ | ⟨n1, m1, g1⟩ <;> rcases mvG_some h2 with ⟨e2, g2⟩ | ⟨n2, m2, g2⟩
  · exact ⟨e1.trans e2.symm, (h _ _ _ _ _ _ _ _ g1 g2 hb).2⟩
  · exact absurd (h _ _ _ _ _ _ _ _ g1 g2 hb).1.symm m2
  · exact absurd (h _ _ _ _ _ _ _ _ g1 g2 hb).1 m1
  · exact h _ _ _ _ _ _ _ _ g1 g2 hb
theorem mvG_rng {E w} {G : GG} (h : GRng E w G) (r s : Nat) : GRng E w (mvG G r s) := by
  intro r1 p1 ad c h1
  rcases mvG_some h1 with ⟨e1, g1⟩ | ⟨n1, m1, g1⟩
  · exact h _ _ _ _ g1
  · exact h _ _ _ _ g1
theorem put_getD (a : Act) (d t : Nat) (v : Value) (hd : d < a.tmps.size) : (a.put (some d) v).tmps.getD t undef = if t = d then v else a.tmps.getD t undef := by
  simp only [Act.put, Array.getD_eq_getD_getElem?, Array.getElem?_setIfInBounds]
  by_cases e : t = d
  · subst e; simp [hd]
  · have e' : ¬ d = t := fun x => e x.symm
    simp [e, e']
theorem Rel.put {E σ a w G} (h : Rel E σ a w G) (d x : Nat) (hd : σ.has (slot d) = true) {rows : List Row} {v : Value}
    (hr : RelRows E G (fun r => (σ.get r).ver) w (G (park x)) rows v) :
    Rel E (σ.set (slot d) ⟨bump [] (σ.get (slot d)).ver, rows⟩) (a.put (some d) v) w (mvG G (slot d) (park x)) := by
  have hlt : d < a.tmps.size := by rw [h.tm]; exact h.here d hd
  have hg : Good G (fun r => (σ.get r).ver) (mvG G (slot d) (park x)) (fun r => ((σ.set (slot d) ⟨bump [] (σ.get (slot d)).ver, rows⟩).get r).ver) := by
    intro r hnp p
    simp only [get_set, hd, and_true]
    by_cases e : slot d = r
    · subst e; simp [bump_nil]
    · have e' : ¬ r = slot d := fun x => e x.symm
      simp [e, mvG, e', np_ne_park hnp x]
  refine { nd := by rw [keys_set]; exact h.nd, inj := mvG_inj h.inj _ _, rng := mvG_rng h.rng _ _, os := h.os, tape := h.tape, output := h.output, size := h.size, kept := h.kept, slots := fun t => ?_, boxes := fun t => ?_, exts := fun t => ?_, xbox := fun t ht => ?_, defers := by simpa [Act.put] using h.defers, tm := by simpa [Act.put] using h.tm, here := fun t ht => h.here t (by rw [has_iff] at *; rwa [keys_set] at ht) }
  · rw [put_getD _ _ _ _ hlt]
    by_cases e : t = d
    · subst e
      have : ((σ.set (slot t) ⟨bump [] (σ.get (slot t)).ver, rows⟩).get (slot t)).rows = rows := by simp [get_set, hd]
      rw [this, if_pos rfl]
      have e2 : mvG G (slot t) (park x) (slot t) = G (park x) := by simp [mvG]
      rw [e2]
      exact hr.good hg
    · have e1 : ¬ slot d = slot t := fun x => e (slot_inj x).symm
      have e3 : ¬ slot t = slot d := fun x => e (slot_inj x)
      have : ((σ.set (slot d) ⟨bump [] (σ.get (slot d)).ver, rows⟩).get (slot t)).rows = (σ.get (slot t)).rows := by simp [get_set, e1]
      rw [this, if_neg e]
      have e2 : mvG G (slot d) (park x) (slot t) = G (slot t) := by simp [mvG, e3, slot_ne_park]
      rw [e2]
      exact (h.slots t).good hg
  · have : ((σ.set (slot d) ⟨bump [] (σ.get (slot d)).ver, rows⟩).get (box t)).rows = (σ.get (box t)).rows := by simp [get_set, slot_ne_box]
    have e2 : mvG G (slot d) (park x) (box t) = G (box t) := by unfold mvG; rw [if_neg (slot_ne_box d t).symm, if_neg (box_ne_park t x)]
    rw [this, e2]
    exact (h.boxes t).imp id fun ⟨row, b, cs, e, h1, h2, h3, h4⟩ => ⟨row, b, cs, e, h1, h2, h3, h4.good hg⟩
  · have : ((σ.set (slot d) ⟨bump [] (σ.get (slot d)).ver, rows⟩).get (ext t)).rows = (σ.get (ext t)).rows := by simp [get_set, slot_ne_ext]
    have e2 : mvG G (slot d) (park x) (ext t) = G (ext t) := by unfold mvG; rw [if_neg (slot_ne_ext d t).symm, if_neg (ext_ne_park t x)]
    rw [this, e2]
    exact (h.exts t).good hg
  · have e2 : mvG G (slot d) (park x) (box t) = G (box t) := by unfold mvG; rw [if_neg (slot_ne_box d t).symm, if_neg (box_ne_park t x)]
    rw [e2]
    exact h.xbox t ht
end Go.Mach
