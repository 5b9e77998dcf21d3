/- New variables and stores are sound. Conditions: none (lemmas). -/
import Derived.Test.YtkbhcdenfigpoaaM6
set_option linter.all false
namespace Go.Mach
theorem RelIm.one {w N t v} (h : RelIm w N t v) : v.oneCell' = true := by
  cases t with
  | arr m n f => obtain ⟨A, cap, rfl, _⟩ := h; rfl
  | int k n => cases h; rfl
  | bool b => cases h; rfl
  | str s => cases h; rfl
  | hole => exact h
  | lent m n => exact h
theorem RelC.one {E G V w g c v} (h : RelC E G V w g c v) : v.oneCell' = true := by
  cases c with
  | tr o t => cases o with
    | true => exact RelOwn.one h
    | false => exact RelIm.one h
  | ref r ver p m s n => obtain ⟨A, cap, rfl, _⟩ := h; rfl
  | pt x => cases x with
    | ptr r ver p m j k => obtain ⟨b, o, rfl, _⟩ := h; rfl
    | pim m g => obtain ⟨b, o, rfl, _⟩ := h; rfl
  | fn f caps => obtain ⟨vs, rfl, _⟩ := h; rfl
  | dead => exact h
theorem RelRow.cells {E G V w g row v} (h : RelRow E G V w g row v) (hne : row.2 ≠ []) : RelCs E G V w g row.2 v.cells := by
  obtain ⟨ag, cs⟩ := row
  cases ag with
  | true => obtain ⟨vs, rfl, hc⟩ := h; exact hc
  | false => match cs, h with
    | [], h => exact absurd rfl hne
    | [c], h =>
      have h1 : RelC E G V w (g 0) c v := h
      have : v.cells = #[v] := by
        have := h1.one
        cases v <;> simp [Value.cells, Value.oneCell'] at *
      rw [this]
      refine ⟨rfl, fun k c' hk => ?_⟩
      cases k with
      | zero => simp at hk; subst hk; exact ⟨v, rfl, h1⟩
      | succ k => simp at hk
section
variable {P : Program} {φ : Sems} {a : Act} {w : World}
theorem grew_alloc (w : World) (o : Obj) : Grew w (w.alloc o) := ⟨rfl, rfl, rfl, by simp, fun b hb => Go.RowKit.Below.heap_alloc w o b hb⟩
/-- The ghost behind a new box: what was in flight at park x lies in it. -/
def boxG (G : GG) (d x new : Nat) : GG := fun r => if r = box d then fun p => if p = [] then some (⟨new, 0, none⟩, 1) else G (park x) p else if r = park x then noG else G r
theorem boxG_some {G : GG} {d x new r p y} (h : boxG G d x new r p = some y) : (r = box d ∧ p = [] ∧ y = (⟨new, 0, none⟩, 1)) ∨ (r = box d ∧ G (park x) p = some y) ∨ (r ≠ box d ∧ r ≠ park x ∧ G r p = some y) := by
  unfold boxG at h
  split at h
  · rename_i e
    dsimp only at h
    split at h
    · exact .inl ⟨e, ‹_›, (Option.some.inj h).symm⟩
    · exact .inr (.inl ⟨e, h⟩)
  · split at h
    · simp [noG] at h
    · exact .inr (.inr ⟨‹_›, ‹_›, h⟩)
theorem boxG_inj {G : GG} (h : GInj G) {d x new} (hn : ∀ r p ad c, G r p = some (ad, c) → ad.block < new) : GInj (boxG G d x new) := by
  intro r1 q1 r2 q2 ad c ad' c' h1 h2 hb
  rcases boxG_some h1 with ⟨e1, e1', y1⟩ | ⟨e1, g1⟩ | ⟨n1, m1, g1⟩ <;> rcases boxG_some h2 with ⟨e2, e2', y2⟩ | ⟨e2, g2⟩ | ⟨n2, m2, g2⟩
  · exact ⟨e1.trans e2.symm, e1'.trans e2'.symm⟩
  · cases y1; have := hn _ _ _ _ g2; simp at hb; omega
  · cases y1; have := hn _ _ _ _ g2; simp at hb; omega
  · cases y2; have := hn _ _ _ _ g1; simp at hb; omega
  · exact ⟨e1.trans e2.symm, (h _ _ _ _ _ _ _ _ g1 g2 hb).2⟩
  · exact absurd (h _ _ _ _ _ _ _ _ g1 g2 hb).1.symm m2
  · cases y2; have := hn _ _ _ _ g1; simp at hb; omega
  · exact absurd (h _ _ _ _ _ _ _ _ g1 g2 hb).1 m1
  · exact h _ _ _ _ _ _ _ _ g1 g2 hb
theorem Rel.newBox {E σ G} (h : Rel E σ a w G) (d x : Nat) (hdn : d < E.nt) (hd : σ.has (box d) = true) {row : Row} {vs : Array Value} (hc : RelCs E G σ.V w (fun k q => G (park x) (0 :: k :: q)) row.2 vs) (e : TypeId) :
    Rel E (σ.set (box d) ⟨bump [] (σ.get (box d)).ver, [row]⟩) a (w.alloc (.cells vs e)) (boxG G d x w.heap.size) := by
  have hlt : ∀ r p ad c, G r p = some (ad, c) → ad.block < w.heap.size := fun r p ad c hg => (h.rng _ _ _ _ hg).2
  have h1 := h.grew (grew_alloc w (.cells vs e))
  refine (h1.root (box d) (np_box d) [row] [] (boxG_inj h.inj hlt) ?_ (fun r' hr hne => ?_) (fun p hp => absurd (List.nil_prefix) hp) (fun t e => absurd e.symm (slot_ne_box t d)) (fun t e' => ⟨?_, fun ht => absurd (box_inj e') (by omega)⟩) (fun t e => absurd e (box_ne_ext d t)) hd).1
  · intro r p ad c hg
    rcases boxG_some hg with ⟨_, _, y⟩ | ⟨_, g⟩ | ⟨_, _, g⟩
    · cases y
      exact ⟨.inl h.size, by simp⟩
    · exact ⟨(h.rng _ _ _ _ g).1, by have := (h.rng _ _ _ _ g).2; simp; omega⟩
    · exact ⟨(h.rng _ _ _ _ g).1, by have := (h.rng _ _ _ _ g).2; simp; omega⟩
  · unfold boxG
    rw [if_neg hne, if_neg (np_ne_park hr x)]
  · have := box_inj e'
    subst this
    refine .inr ⟨row, w.heap.size, vs, e, rfl, by simp [boxG], heap_alloc_new w _, ?_⟩
    have : (fun (k : Nat) (q : Path) => boxG G d x w.heap.size (box d) (0 :: k :: q)) = fun k q => G (park x) (0 :: k :: q) := by
      funext k q
      simp [boxG]
    rw [this]
    exact hc.ext fun k p ad c hg => (grew_alloc w _).old _ (hlt _ _ _ _ hg)
theorem put_has {σ : St} {r : Nat} {ct : Ct} {d : Nat} {c : C} {L L' σ' u} (h : (put1 (some d) c).run φ (σ.set r ct) L = some (u, σ', L')) : σ.has (slot d) = true := by
  have := (run_wr h).1
  rw [has_iff] at *
  rwa [keys_set] at this
theorem boxG_park {G : GG} {d x new : Nat} : boxG G d x new (park x) = noG := by
  unfold boxG
  rw [if_neg (box_ne_park d x).symm, if_pos rfl]
theorem newBox_ptr {E : Env} {σ : St} {G : GG} {d x new m : Nat} {row : Row} (hd : σ.has (box d) = true) :
    RelPt E (boxG G d x new) (σ.set (box d) ⟨bump [] (σ.get (box d)).ver, [row]⟩).V (.ptr (box d) ((σ.get (box d)).ver [] + 1) [] m 0 0) (.pointer (some ⟨new, 0, none⟩)) :=
  ⟨new, 0, rfl, ⟨np_box d, fun _ => by unfold box; omega⟩, by simp [St.V, get_set, hd, bump_nil], fun _ => ⟨0, 1, by simp [boxG], by simp⟩⟩
theorem run_newVar (e : TypeId) (v : Value) : (newVar e v).run P w = .ok ⟨w.heap.size, 0, none⟩ (w.alloc (.cells v.cells e)) := by
  simp [newVar, newRow]
theorem zeroRow_some {e : TypeId} (h : (zeroRow P e).2 ≠ []) : ∃ v, (zeroValue e).run P w = .ok v w ∧ ∀ E G V, RelRow E G V w (fun _ => noG) (zeroRow P e) v := by
  unfold zeroRow at *
  cases hi : P.info? e with
  | none => simp [hi] at h
  | some i =>
    simp only [hi] at h ⊢
    cases hz : i.zero with
    | none => simp [hz] at h
    | some v =>
      simp only [hz] at h ⊢
      cases hv : ofValue v with
      | none => simp [hv] at h
      | some r => exact ⟨v, by simp [zeroValue, typeInfo, hi, hz], fun E G V => typRow_rel (ofValue_rel hv)⟩
theorem ok_alloc {dst e ty pos after guard} : OpOk P φ ⟨dst, .alloc e, ty, pos, after, guard⟩ (opP P ⟨dst, .alloc e, ty, pos, after, guard⟩) := by
  intro E σ a w L σ' L' ⟨G, hG, hp⟩ hrun K Q hK
  cases dst with
  | none => exact (run_fail (φ := φ) (α := Unit) hrun).elim
  | some d =>
    obtain ⟨hb, h2⟩ := run_guard (φ := φ) (α := Unit) hrun
    simp only [Bool.and_eq_true, Bool.not_eq_true'] at hb
    have hl := beq_eq hb.1
    have hne : (zeroRow P e).2 ≠ [] := by
      intro e0
      rw [e0] at hl
      simp at hl
      rw [← hl] at hb
      simp [beqT] at hb
    rw [runRd] at h2
    obtain ⟨hd, h3⟩ := run_wr h2
    obtain ⟨v, hz, hv⟩ := zeroRow_some (P := P) (w := w) hne
    have hrel := (hv E G σ.V).cells hne
    have hrel' : RelCs E G σ.V w (fun k q => G (park 0) (0 :: k :: q)) (zeroRow P e).2 v.cells := by rw [hp 0]; exact hrel
    have hnew := hG.newBox d 0 (hG.here d (put_has h3)) hd (row := zeroRow P e) hrel' e
    refine wp_value (v := .pointer (some ⟨w.heap.size, 0, none⟩)) (w' := w.alloc (.cells v.cells e)) ?_ (hK _ _ (put_sound hnew 0 (rows := [(false, [.pt (.ptr (box d) ((σ.get (box d)).ver [] + 1) [] (szOf P e) 0 0)])]) (newBox_ptr (E := E) hd) h3))
    simp [execOp, Instr.alloc, hz, run_newVar]
theorem ok_box {dst e x ty pos after guard} : OpOk P φ ⟨dst, .box e x, ty, pos, after, guard⟩ (opP P ⟨dst, .box e x, ty, pos, after, guard⟩) := by
  intro E σ a w L σ' L' ⟨G, hG, hp⟩ hrun K Q hK
  cases dst with
  | none => exact (run_fail (φ := φ) (α := Unit) hrun).elim
  | some d =>
    obtain ⟨row, σ1, L1, h1, h2⟩ := run_bind (φ := φ) (p := takeRow x) hrun
    obtain ⟨G1, hG1, hr, _, _⟩ := takeRow_sound hG 0 (hp 0) h1
    obtain ⟨hb, h2⟩ := run_guard h2
    simp only [Bool.and_eq_true, Bool.not_eq_true'] at hb
    have hne : row.2 ≠ [] := by
      intro e0
      have hl := beq_eq hb.1
      rw [e0] at hl
      simp at hl
      rw [← hl] at hb
      simp [beqT] at hb
    rw [runRd] at h2
    obtain ⟨hd, h3⟩ := run_wr h2
    have hnew := hG1.newBox d 0 (hG1.here d (put_has h3)) hd (row := row) (hr.cells hne) e
    refine wp_value (v := .pointer (some ⟨w.heap.size, 0, none⟩)) (w' := w.alloc (.cells (a.eval x).cells e)) ?_ (hK _ _ (put_sound hnew 0 (rows := [(false, [.pt (.ptr (box d) ((σ1.get (box d)).ver [] + 1) [] (szOf P e) 0 0)])]) (newBox_ptr (E := E) hd) h3))
    simp [execOp, Instr.box, run_newVar]
theorem idx_inj {m j k j' k' : Nat} (hk : k < m) (hk' : k' < m) (h : j * m + k = j' * m + k') : j = j' ∧ k = k' := by
  have h1 : (j * m + k) / m = j := by rw [Nat.mul_comm, Nat.mul_add_div (by omega), Nat.div_eq_of_lt hk]; omega
  have h2 : (j' * m + k') / m = j' := by rw [Nat.mul_comm, Nat.mul_add_div (by omega), Nat.div_eq_of_lt hk']; omega
  have : j = j' := by rw [← h1, ← h2, h]
  subst this
  exact ⟨rfl, by omega⟩
/-- One cell of the array at p is written. -/
theorem own_store {w w' : World} {b off cap j k : Nat} {u : Value} {t1 : T} {m n : Nat} {f : Nat → Nat → T} : (p : Path) → {t t' : T} → {g g' : Gh} → {v : Value} → RelOwn w t g v → t.put (p ++ [j, k]) t1 = some t' → t.at p = some (.arr m n f) →
    g p = some (⟨b, off, none⟩, cap) → (∀ b', b' ≠ b → w'.heap[b']? = w.heap[b']?) →
    (∀ cs e, w.heap[b]? = some (.cells cs e (0, 0)) → w'.heap[b]? = some (.cells (cs.setIfInBounds (off + (j * m + k)) u) e (0, 0))) →
    (∀ q ad c, g q = some (ad, c) → ad.block = b → q = p) → (∀ q, ¬ (p ++ [j, k]) <+: q → g' q = g q) → RelOwn w' t1 (fun q => g' (p ++ j :: k :: q)) u → RelOwn w' t' g' v
  | [], t, t', g, g', v, h, hput, hat, hg, hw, hb, hu, hgg, h1 => by
    have : t = .arr m n f := by
      have h2 : T.at t [] = some t := by cases t <;> rfl
      exact Option.some.inj (h2.symm.trans hat)
    subst this
    simp only [List.nil_append, T.put] at hput
    cases hlt : (Nat.blt j n && Nat.blt k m) with
    | false => simp [hlt] at hput
    | true =>
      simp only [hlt, cond_true, T.put, Option.some.injEq] at hput
      subst hput
      simp only [Bool.and_eq_true, Nat.blt_eq] at hlt
      have hg0 : g' [] = g [] := hgg [] (by simp)
      rcases h with ⟨_, h0, _⟩ | ⟨b1, off1, cap1, cs, e', g1, h2, h3, h4, h5, h6⟩
      · omega
      · rw [hg] at g1
        simp only [Option.some.injEq, Prod.mk.injEq, Addr.mk.injEq, and_true] at g1
        obtain ⟨⟨rfl, rfl⟩, rfl⟩ := g1
        refine .inr ⟨b, off, cap, _, e', hg0.trans hg, h2, h3, hb _ _ h4, by simpa using h5, fun j' hj' k' hk' => ?_⟩
        obtain ⟨u', hu', hr'⟩ := h6 j' hj' k' hk'
        by_cases e : j' = j ∧ k' = k
        · obtain ⟨rfl, rfl⟩ := e
          simp only [beqT, Bool.and_self, cond_true]
          have hin : off + (j' * m + k') < cs.size := (Array.getElem?_eq_some_iff.1 hu').1
          exact ⟨u, by simp [hin], h1⟩
        · have hne : ¬ off + (j * m + k) = off + (j' * m + k') := fun x => e (by
            obtain ⟨h1, h2⟩ := idx_inj hlt.2 hk' (by omega : j * m + k = j' * m + k')
            exact ⟨h1.symm, h2.symm⟩)
          have : (Nat.beq j' j && Nat.beq k' k) = false := by
            by_cases e1 : j' = j
            · have e2 : k' ≠ k := fun e2 => e ⟨e1, e2⟩
              simp [beqF e2]
            · simp [beqF e1]
          simp only [this, cond_false]
          refine ⟨u', by rw [Array.getElem?_setIfInBounds_ne hne]; exact hu', ?_⟩
          have hsame : (fun q' => g' (j' :: k' :: q')) = fun q' => g (j' :: k' :: q') := funext fun q' => hgg _ (by
            intro hpre
            simp only [List.nil_append, List.cons_prefix_cons] at hpre
            exact e ⟨hpre.1.symm, hpre.2.1.symm⟩)
          rw [hsame]
          refine hr'.ext fun q ad c hq => hw _ fun e2 => ?_
          have := hu _ _ _ hq e2
          simp at this
  | [x], t, t', g, g', v, h, hput, hat, hg, hw, hb, hu, hgg, h1 => by cases t <;> simp [T.at] at hat
  | j1 :: k1 :: p1, t, t', g, g', v, h, hput, hat, hg, hw, hb, hu, hgg, h1 => by
    cases t with
    | arr m1 n1 f1 =>
      simp only [List.cons_append, T.put] at hput
      simp only [T.at] at hat
      cases hlt : (Nat.blt j1 n1 && Nat.blt k1 m1) with
      | false => simp [hlt] at hput
      | true =>
        simp only [hlt, cond_true] at hput hat
        simp only [Bool.and_eq_true, Nat.blt_eq] at hlt
        cases hp : (f1 j1 k1).put (p1 ++ [j, k]) t1 with
        | none => simp [hp] at hput
        | some t2 =>
          simp only [hp, Option.some.injEq] at hput
          subst hput
          have hg0 : g' [] = g [] := hgg [] (by simp)
          rcases h with ⟨_, h0, _⟩ | ⟨b1, off1, cap1, cs, e', g1, h2, h3, h4, h5, h6⟩
          · omega
          · have hb1 : b1 ≠ b := fun e => by
              have := hu _ _ _ g1 e
              simp at this
            refine .inr ⟨b1, off1, cap1, cs, e', hg0.trans g1, h2, h3, (hw _ hb1).trans h4, h5, fun j' hj' k' hk' => ?_⟩
            obtain ⟨u', hu', hr'⟩ := h6 j' hj' k' hk'
            refine ⟨u', hu', ?_⟩
            by_cases e : j' = j1 ∧ k' = k1
            · obtain ⟨rfl, rfl⟩ := e
              simp only [beqT, Bool.and_self, cond_true]
              exact own_store p1 hr' hp hat hg hw hb (fun q ad c hq e => by
                have := hu _ _ _ hq e
                simpa using this) (fun q hq => hgg _ (by simpa using hq)) h1
            · have : (Nat.beq j' j1 && Nat.beq k' k1) = false := by
                by_cases e1 : j' = j1
                · have e2 : k' ≠ k1 := fun e2 => e ⟨e1, e2⟩
                  simp [beqF e2]
                · simp [beqF e1]
              simp only [this, cond_false]
              have hsame : (fun q' => g' (j' :: k' :: q')) = fun q' => g (j' :: k' :: q') := funext fun q' => hgg _ (by
                intro hpre
                simp only [List.cons_append, List.cons_prefix_cons] at hpre
                exact e ⟨hpre.1.symm, hpre.2.1.symm⟩)
              rw [hsame]
              refine hr'.ext fun q ad c hq => hw _ fun e2 => ?_
              have := hu _ _ _ hq e2
              simp only [List.cons.injEq] at this
              exact e ⟨this.1, this.2.1⟩
    | _ => simp [T.at] at hat
/-- How the world turns at a store. -/
structure Wrote (w w' : World) (b o : Nat) (u : Value) : Prop where
  os : w'.os = w.os
  tape : w'.tape = w.tape
  output : w'.output = w.output
  size : w'.heap.size = w.heap.size
  other : ∀ b', b' ≠ b → w'.heap[b']? = w.heap[b']?
  here : ∀ cs e, w.heap[b]? = some (.cells cs e (0, 0)) → w'.heap[b]? = some (.cells (cs.setIfInBounds o u) e (0, 0))
theorem wrote_setCell (w : World) (b o : Nat) (u : Value) : Wrote w (w.setCell ⟨b, o, none⟩ u) b o u where
  os := rfl
  tape := rfl
  output := rfl
  size := by simp
  other := fun b' hb' => heap_setCell_other w ⟨b, o, none⟩ b' u hb'
  here := fun cs e h => heap_setCell_same w b o cs e u h
theorem RelCs.setW {E G V w w' g g' cs vs k c'} (h : RelCs E G V w g cs vs) (hk : ∀ u, vs[k]? = some u → RelC E G V w' (g' k) c' u) (hg : ∀ k' c u, k' ≠ k → RelC E G V w (g k') c u → RelC E G V w' (g' k') c u) :
    RelCs E G V w' g' (cs.set k c') vs := by
  refine ⟨by simpa using h.1, fun i c hi => ?_⟩
  by_cases e : i = k
  · subst e
    have hlt : i < cs.length := by simpa using (List.getElem?_eq_some_iff.1 hi).1
    have hv : i < vs.size := by rw [h.1]; exact hlt
    rw [List.getElem?_set_self hlt] at hi
    obtain rfl := Option.some.inj hi
    exact ⟨vs[i], Array.getElem?_eq_getElem hv, hk _ (Array.getElem?_eq_getElem hv)⟩
  · rw [List.getElem?_set_ne (fun x => e x.symm)] at hi
    obtain ⟨u, hu, hr⟩ := h.2 i c hi
    exact ⟨u, hu, hg i c u e hr⟩
theorem RelRow.imp {E G V w w' g g' row v} (h : RelRow E G V w g row v) (hg : ∀ k c u, RelC E G V w (g k) c u → RelC E G V w' (g' k) c u) : RelRow E G V w' g' row v := by
  obtain ⟨ag, cs⟩ := row
  cases ag with
  | true =>
    obtain ⟨vs, e, hc⟩ := h
    exact ⟨vs, e, hc.1, fun k c hk => let ⟨u, hu, hr⟩ := hc.2 k c hk; ⟨u, hu, hg k c u hr⟩⟩
  | false => match cs, h with
    | [], h => exact h
    | [c], h => exact hg 0 c v h
theorem RelRows.rowW {E G V w g rows v i row} (h : RelRows E G V w g rows v) (hi : rows[i]? = some row) : ∃ u, RelRow E G V w (fun k q => g (i :: k :: q)) row u ∧
    (∀ w' g' row', (∀ i' k c x, i' ≠ i → RelC E G V w (fun q => g (i' :: k :: q)) c x → RelC E G V w' (fun q => g' (i' :: k :: q)) c x) → RelRow E G V w' (fun k q => g' (i :: k :: q)) row' u → RelRows E G V w' g' (rows.set i row') v) := by
  match rows, h with
  | [], _ => simp at hi
  | [r], h =>
    cases i with
    | zero => simp at hi; subst hi; exact ⟨v, h, fun w' g' row' _ h' => h'⟩
    | succ i => simp at hi
  | r :: r' :: rs, ⟨vs, e, hs, hh⟩ =>
    obtain ⟨u, hu, hr⟩ := hh i row hi
    refine ⟨u, hr, fun w' g' row' hg h' => ?_⟩
    have hl : i < (r :: r' :: rs).length := (List.getElem?_eq_some_iff.1 hi).1
    have key : ∀ l : List Row, l = (r :: r' :: rs).set i row' → RelRows E G V w' g' l v := by
      intro l el
      have hlen : l.length = (r :: r' :: rs).length := by rw [el]; simp
      match l, hlen, el with
      | a :: b :: l, hlen, el =>
        refine ⟨vs, e, by omega, fun i' row'' hi' => ?_⟩
        rw [el] at hi'
        by_cases e' : i' = i
        · subst e'
          rw [List.getElem?_set_self hl] at hi'
          obtain rfl := Option.some.inj hi'
          exact ⟨u, hu, h'⟩
        · rw [List.getElem?_set_ne (fun x => e' x.symm)] at hi'
          obtain ⟨u', hu', hr'⟩ := hh i' row'' hi'
          exact ⟨u', hu', hr'.imp fun k c x => hg i' k c x e'⟩
    exact key _ rfl
/-- What is asked of the ghosts at a store. -/
structure StG (w w' : World) (g g' : Gh) (p : Path) (j k m off : Nat) (b cap : Nat) (u : Value) (t1 : T) : Prop where
  at_ : g p = some (⟨b, off, none⟩, cap)
  wrote : Wrote w w' b (off + (j * m + k)) u
  only : ∀ q ad c, g q = some (ad, c) → ad.block = b → q = p
  else_ : ∀ q, ¬ (p ++ [j, k]) <+: q → g' q = g q
  new : RelOwn w' t1 (fun q => g' (p ++ j :: k :: q)) u
theorem StG.other {E G V w w' g g' i k0 q j k m off b cap u t1} (h : StG w w' g g' (i :: k0 :: q) j k m off b cap u t1) {i' k' c x} (hne : ¬ (i' = i ∧ k' = k0)) (hr : RelC E G V w (fun q => g (i' :: k' :: q)) c x) :
    RelC E G V w' (fun q => g' (i' :: k' :: q)) c x := by
  have hsame : (fun q' => g' (i' :: k' :: q')) = fun q' => g (i' :: k' :: q') := funext fun q' => h.else_ _ (by
    intro hp
    simp only [List.cons_append, List.cons_prefix_cons] at hp
    exact hne ⟨hp.1.symm, hp.2.1.symm⟩)
  rw [hsame]
  refine hr.ext fun q' ad c' hq => h.wrote.other _ fun e => ?_
  have := h.only _ _ _ hq e
  simp only [List.cons.injEq] at this
  exact hne ⟨this.1, this.2.1⟩
theorem StG.cell {E G V w w' g g' i k0 q j k m off b cap u t1 t0 t2 n f x} (h : StG w w' g g' (i :: k0 :: q) j k m off b cap u t1) (hr : RelC E G V w (fun q => g (i :: k0 :: q)) (.tr true t0) x) (hput : t0.put (q ++ [j, k]) t1 = some t2) (hat : t0.at q = some (.arr m n f)) :
    RelC E G V w' (fun q => g' (i :: k0 :: q)) (.tr true t2) x :=
  own_store q hr hput hat h.at_ h.wrote.other h.wrote.here (fun q' ad c hq e => by
    have := h.only _ _ _ hq e
    simpa using this) (fun q' hq' => h.else_ _ (by simpa using hq')) h.new
theorem rows_same {rows rows' : List Row} {i k q j k' t1 m n f} (hput : rowsPut rows t1 (i :: k :: (q ++ [j, k'])) = some rows') (hat : rowsAt rows (i :: k :: q) = some (.arr m n f)) :
    ∃ ag cs t0 t2, rows[i]? = some (ag, cs) ∧ cs[k]? = some (.tr true t0) ∧ t0.put (q ++ [j, k']) t1 = some t2 ∧ t0.at q = some (.arr m n f) ∧ rows' = rows.set i (ag, cs.set k (.tr true t2)) := by
  obtain ⟨i0, k0, q0, ag, cs, t0, t2, e0, h2, h3, h4, rfl⟩ := rowsPut_some hput
  simp only [List.cons.injEq] at e0
  obtain ⟨rfl, rfl, rfl⟩ := e0
  obtain ⟨i1, k1, q1, ag', cs', t0', e1, h5, h6, h7⟩ := rowsAt_some hat
  simp only [List.cons.injEq] at e1
  obtain ⟨rfl, rfl, rfl⟩ := e1
  rw [h2] at h5
  simp only [Option.some.injEq, Prod.mk.injEq] at h5
  obtain ⟨rfl, rfl⟩ := h5
  rw [h3] at h6
  simp only [Option.some.injEq, C.tr.injEq, true_and] at h6
  subst h6
  exact ⟨ag, cs, t0, t2, h2, h3, h4, h7, rfl⟩
theorem RelRows.store {E G V w w' g g' rows rows' v i k q j k' t1 b off cap u m n f} (h : RelRows E G V w g rows v) (hput : rowsPut rows t1 (i :: k :: (q ++ [j, k'])) = some rows') (hat : rowsAt rows (i :: k :: q) = some (.arr m n f))
    (hs : StG w w' g g' (i :: k :: q) j k' m off b cap u t1) : RelRows E G V w' g' rows' v := by
  obtain ⟨ag, cs, t0, t2, h1, h2, h3, h4, rfl⟩ := rows_same hput hat
  obtain ⟨u0, hr, back⟩ := h.rowW h1
  obtain ⟨vs, hc, back'⟩ := hr.cs (by rintro rfl; simp at h2)
  refine back _ _ _ (fun i' k'' c x hne hr' => hs.other (fun e => hne e.1) hr') (back' _ _ _ _ _ _ (by simp) (hc.setW (fun x hx => ?_) fun k'' c x hk'' hr' => hs.other (fun e => hk'' e.2) hr'))
  obtain ⟨x', hx', hxr⟩ := hc.at h2
  rw [hx] at hx'
  obtain rfl := Option.some.inj hx'
  exact hs.cell hxr h3 h4
theorem RelBox.store {E G V w w' g g' rows rows' i k q j k' t1 b off cap u m n f} (h : RelBox E G V w g rows) (hput : rowsPut rows t1 (i :: k :: (q ++ [j, k'])) = some rows') (hat : rowsAt rows (i :: k :: q) = some (.arr m n f))
    (hs : StG w w' g g' (i :: k :: q) j k' m off b cap u t1) : RelBox E G V w' g' rows' := by
  obtain ⟨ag, cs, t0, t2, h1, h2, h3, h4, rfl⟩ := rows_same hput hat
  rcases h with rfl | ⟨row, bb, vs, e, rfl, hbg, hbw, hc⟩
  · simp at h1
  · cases i with
    | succ i => simp at h1
    | zero =>
      simp at h1
      subst h1
      have hne : bb ≠ b := fun e => by
        have := hs.only _ _ _ hbg e
        simp at this
      refine .inr ⟨(ag, cs.set k (.tr true t2)), bb, vs, e, rfl, (hs.else_ [] (by simp)).trans hbg, (hs.wrote.other _ hne).trans hbw, hc.setW (fun x hx => ?_) fun k'' c x hk'' hr' => hs.other (fun e => hk'' e.2) hr'⟩
      obtain ⟨x', hx', hxr⟩ := hc.at h2
      rw [hx] at hx'
      obtain rfl := Option.some.inj hx'
      exact hs.cell hxr h3 h4
/-- A cell of the box itself is written. -/
theorem RelBox.store0 {E G V w w' g g' ag cs k c u b cap} (h : RelBox E G V w g [(ag, cs)]) (hb : g [] = some (⟨b, 0, none⟩, cap)) (hk : k < cs.length) (hw : Wrote w w' b k u) (honly : ∀ q ad c, g q = some (ad, c) → ad.block = b → q = [])
    (hg : ∀ q, ¬ [0, k] <+: q → g' q = g q) (hnew : RelC E G V w' (fun q => g' (0 :: k :: q)) c u) : RelBox E G V w' g' [(ag, cs.set k c)] := by
  rcases h with h | ⟨row, bb, vs, e, hrow, hbg, hbw, hc⟩
  · simp at h
  · simp only [List.cons.injEq, and_true] at hrow
    subst hrow
    rw [hb] at hbg
    simp only [Option.some.injEq, Prod.mk.injEq, Addr.mk.injEq, and_true] at hbg
    obtain ⟨rfl, rfl⟩ := hbg
    refine .inr ⟨(ag, cs.set k c), b, _, e, rfl, (hg [] (by simp)).trans hb, hw.here _ _ hbw, by simpa using hc.1, fun k' c' hk' => ?_⟩
    simp only at hk'
    by_cases ek : k' = k
    · subst ek
      rw [List.getElem?_set_self hk] at hk'
      obtain rfl := Option.some.inj hk'
      have hlt : k' < vs.size := by rw [hc.1]; exact hk
      exact ⟨u, by simp [hlt], hnew⟩
    · rw [List.getElem?_set_ne (fun x => ek x.symm)] at hk'
      obtain ⟨x, hx, hr⟩ := hc.2 k' c' hk'
      refine ⟨x, by rw [Array.getElem?_setIfInBounds_ne (fun x => ek x.symm)]; exact hx, ?_⟩
      have hsame : (fun q' => g' (0 :: k' :: q')) = fun q' => g (0 :: k' :: q') := funext fun q' => hg _ (by
        intro hp
        simp only [List.cons_prefix_cons] at hp
        exact ek hp.2.1.symm)
      show RelC E G V w' (fun q' => g' (0 :: k' :: q')) c' x
      rw [hsame]
      refine RelC.ext hr fun q' ad c' hq => hw.other _ fun e => ?_
      have := honly _ _ _ hq e
      simp at this
/-- A root's content is told anew, in a world that was written where the root owns. -/
theorem Rel.rootW {E σ G G' w'} (h : Rel E σ a w G) (r : Nat) (hnp : notPark r) (rows : List Row) (q : Path) (hq : ∀ p, ¬ q <+: p → G' r p = G r p) (hqn : q ≠ []) {b o u p ad c} (hw : Wrote w w' b o u) (hob : G r p = some (ad, c)) (hab : ad.block = b) (hi : GInj G') (hr : GRng E w G') (hG : ∀ r', notPark r' → r' ≠ r → G' r' = G r')
    (hs : ∀ t, r = slot t → RelRows E G σ.V w' (G' r) rows (a.tmps.getD t undef)) (hb : ∀ t, r = box t → RelBox E G σ.V w' (G' r) rows) (hx : ∀ t, r = ext t → RelRows E G σ.V w' (G' r) rows (E.x t)) (hhas : σ.has r = true) :
    Rel E (σ.set r ⟨bump q (σ.get r).ver, rows⟩) a w' G' ∧ Good G σ.V G' (σ.set r ⟨bump q (σ.get r).ver, rows⟩).V := by
  have hg : Good G σ.V G' (σ.set r ⟨bump q (σ.get r).ver, rows⟩).V := by
    intro r' hr' p
    simp only [St.V, get_set, hhas, and_true]
    by_cases e : r = r'
    · subst e
      simp only [if_true]
      exact ⟨bump_le _ _ _, fun hb => hq p (bump_eq hb)⟩
    · simp [e, hG r' hr' (fun x => e x.symm)]
  have hget : ∀ r', r' ≠ r → (σ.set r ⟨bump q (σ.get r).ver, rows⟩).get r' = σ.get r' := fun r' hne => by
    rw [get_set, if_neg fun x => hne x.1.symm]
  have hself : (σ.set r ⟨bump q (σ.get r).ver, rows⟩).get r = ⟨bump q (σ.get r).ver, rows⟩ := by rw [get_set, if_pos ⟨rfl, hhas⟩]
  have hne : ∀ r', r' ≠ r → ∀ q ad' c', G r' q = some (ad', c') → w'.heap[ad'.block]? = w.heap[ad'.block]? := fun r' hr' q ad' c' hq => hw.other _ fun e => hr' (h.inj _ _ _ _ _ _ _ _ hq hob (e.trans hab.symm)).1
  refine ⟨{ nd := by rw [keys_set]; exact h.nd, inj := hi, rng := fun r p ad c hg => by rw [hw.size]; exact hr r p ad c hg, os := hw.os.trans h.os, tape := hw.tape.trans h.tape, output := hw.output.trans h.output, size := by rw [hw.size]; exact h.size, kept := fun b' hb' => (hw.other _ fun e => ?_).trans (h.kept b' hb'), slots := fun t => ?_, boxes := fun t => ?_, exts := fun t => ?_, xbox := fun t ht => ?_, defers := h.defers, tm := h.tm, here := fun t ht => h.here t (by rw [has_iff] at *; rwa [keys_set] at ht) }, hg⟩
  · have := (h.rng _ _ _ _ hob).1
    rw [hab, ← e] at this
    rcases this with h1 | h1
    · have := hb'.1; omega
    · exact hb'.2 h1
  · by_cases e : slot t = r
    · rw [e, hself]
      exact (hs t e.symm).good hg
    · rw [hget _ e, hG _ (np_slot t) e]
      exact ((h.slots t).ext (hne _ e)).good hg
  · by_cases e : box t = r
    · rw [e, hself]
      exact (hb t e.symm).good hg
    · rw [hget _ e, hG _ (np_box t) e]
      refine RelBox.good hg ?_
      rcases h.box' t with h0 | ⟨row, b', cs, e', h1, h2, h3, h4⟩
      · exact .inl h0
      · exact .inr ⟨row, b', cs, e', h1, h2, (hne _ e _ _ _ h2).trans h3, h4.ext fun k p ad c hp => hne _ e _ _ _ hp⟩
  · by_cases e : ext t = r
    · rw [e, hself]
      exact (hx t e.symm).good hg
    · rw [hget _ e, hG _ (np_ext t) e]
      exact ((h.exts t).ext (hne _ e)).good hg
  · by_cases e : box t = r
    · rw [e, hq _ (by simpa using hqn), ← e]
      exact h.xbox t ht
    · rw [hG _ (np_box t) e]
      exact h.xbox t ht
theorem put_lt {j k u} {m n : Nat} {f : Nat → Nat → T} : (q : Path) → {t t' : T} → t.at q = some (.arr m n f) → t.put (q ++ [j, k]) u = some t' → j < n ∧ k < m
  | [], t, t', hat, hput => by
    have : t = .arr m n f := by
      have h2 : T.at t [] = some t := by cases t <;> rfl
      exact Option.some.inj (h2.symm.trans hat)
    subst this
    simp only [List.nil_append, T.put] at hput
    cases hlt : (Nat.blt j n && Nat.blt k m) with
    | false => simp [hlt] at hput
    | true => simpa only [Bool.and_eq_true, Nat.blt_eq] using hlt
  | [x], t, t', hat, _ => by cases t <;> simp [T.at] at hat
  | j1 :: k1 :: q, t, t', hat, hput => by
    cases t with
    | arr m1 n1 f1 =>
      simp only [List.cons_append, T.put] at hput
      simp only [T.at] at hat
      cases hlt : (Nat.blt j1 n1 && Nat.blt k1 m1) with
      | false => simp [hlt] at hput
      | true =>
        simp only [hlt, cond_true] at hput hat
        cases hp : (f1 j1 k1).put (q ++ [j, k]) u with
        | none => simp [hp] at hput
        | some t2 => exact put_lt q hat hp
    | _ => simp [T.at] at hat
theorem ownT_rel {E G V g c t v} (h : RelC E G V w g c v) (ho : ownT c = some t) : RelOwn w t g v := by
  unfold ownT at ho
  split at ho
  · obtain rfl := Option.some.inj ho; exact h
  · simp at ho
  · simp at ho
  · rename_i t' hne hne'
    obtain rfl := Option.some.inj ho
    cases t' with
    | arr m n f => exact absurd rfl (hne m n f)
    | lent m n => exact absurd rfl (hne' m n)
    | _ => exact h
  · simp at ho
theorem run_store1 {b o : Nat} {v x : Value} (hv : v.oneCell' = true) {cs : Array Value} {e} (hb : w.heap[b]? = some (.cells cs e (0, 0))) (hx : cs[o]? = some x) : (store ⟨b, o, none⟩ v).run P w = .ok () (w.setCell ⟨b, o, none⟩ v) := by
  rw [run_store P w _ v _ hv, cell_of_row' hb, hx]
  simp [frozen_of_row w b o cs e hb]
theorem putB_some {p : Path} {j k : Nat} {c : C} {rows : List Row} (h : putB p j k c rows = true) : putCell p j k c rows = some (putV p j k c rows) := by
  cases p with
  | nil =>
    simp only [putB] at h
    simp only [putCell, putV]
    split at h
    · rename_i g old hj
      simp only [h, cond_true]
    · cases h
  | cons y p =>
    simp only [putB] at h
    simp only [putCell, putV]
    split at h
    · rename_i t ht
      exact (rows_of_ok h).2 t
    · cases h
theorem mOk_some {y : Nat} {p : Path} {m : Nat} {rows : List Row} (h : mOk (y :: p) m rows = true) : ∃ n f, rowsAt rows (y :: p) = some (.arr m n f) := by
  simp only [mOk, Bool.and_eq_true] at h
  obtain ⟨h1, h2, h3⟩ := h
  refine ⟨(rowsGet rows (y :: p)).ln, (rowsGet rows (y :: p)).fn, ?_⟩
  rw [(rows_of_ok h1).1, beq_eq h3]
  congr 1
  exact arr_of h2
theorem storeCs_sound {E : Env} (x : Nat) {r : Nat} {p : Path} {m j b off cap o : Nat} (hnp : notPark r) (hbox : p = [] → r % 4 = 1) : ∀ (l : List C) (vs : List Value) (ver k i : Nat) (σ : St) (G : GG) (w : World), Rel E σ a w G → vs.length = l.length →
    (∀ (i' : Nat) c, l[i']? = some c → ∃ u, vs[i']? = some u ∧ RelC E G σ.V w (fun q => G (park x) (0 :: (i + i') :: q)) c u) → G r p = some (⟨b, off, none⟩, cap) → o + i = off + (j * m + k) → ∀ {L σ' L'},
    (storeCs r p m j ver k l).run φ σ L = some ((), σ', L') → ∃ w' G', (storeCells ⟨b, o, none⟩ vs i).run P w = .ok () w' ∧ Rel E σ' a w' G'
  | [], vs, ver, k, i, σ, G, w, h, hl, _, _, _, L, σ', L', hrun => by
    have := run_ret (φ := φ) hrun
    simp only [Prod.mk.injEq] at this
    obtain ⟨_, rfl, rfl⟩ := this
    have : vs = [] := List.eq_nil_of_length_eq_zero hl
    subst this
    exact ⟨w, G, rfl, h⟩
  | c :: l, vs, ver, k, i, σ, G, w, h, hl, hp, hg, ho, L, σ', L', hrun => by
    match vs, hl, hp with
    | v :: vs, hl, hp =>
    obtain ⟨u, hu, hr⟩ := hp 0 c rfl
    simp only [List.getElem?_cons_zero, Option.some.injEq] at hu
    subst hu
    simp only [storeCs, runRd] at hrun
    replace hrun := run_guard hrun
    obtain ⟨hb, hrun2⟩ := hrun
    simp only [Bool.and_eq_true, Nat.blt_eq] at hb
    obtain ⟨⟨hver, hkm, hmok⟩, hpb⟩ := hb
    have hput := putB_some hpb
    generalize putV p j k c (σ.get r).rows = rows' at hput hrun2
    obtain ⟨hhas, hrun3⟩ := run_wr hrun2
    have hpar : ∀ q ad c', G (park x) q = some (ad, c') → ad.block ≠ b := fun q ad c' hq e => np_ne_park hnp x (h.inj _ _ _ _ _ _ _ _ hg hq e.symm).1
    have honly : ∀ q ad c', G r q = some (ad, c') → ad.block = b → q = p := fun q ad c' hq e => (h.inj _ _ _ _ _ _ _ _ hq hg e).2
    -- the single step
    have step : ∃ x0 cs0 e0, w.heap[b]? = some (.cells cs0 e0 (0, 0)) ∧ cs0[off + (j * m + k)]? = some x0 ∧
        (Rel E (σ.set r ⟨bump (p ++ [j, k]) (σ.get r).ver, rows'⟩) a (w.setCell ⟨b, off + (j * m + k), none⟩ v) (tkG G (park x) [0, i] r (p ++ [j, k])) ∧ Good G σ.V (tkG G (park x) [0, i] r (p ++ [j, k])) (σ.set r ⟨bump (p ++ [j, k]) (σ.get r).ver, rows'⟩).V) := by
      have hW := wrote_setCell w b (off + (j * m + k)) v
      have hGi : GInj (tkG G (park x) [0, i] r (p ++ [j, k])) := tkG_inj h.inj _ _ _ _
      have hGr : GRng E w (tkG G (park x) [0, i] r (p ++ [j, k])) := tkG_rng h.rng _ _ _ _
      have hGo : ∀ r', notPark r' → r' ≠ r → tkG G (park x) [0, i] r (p ++ [j, k]) r' = G r' := fun r' h1 h2 => funext fun q => tkG_out (fun e => h2 e.1) (fun e => np_ne_park h1 x e.1)
      have hGin : ∀ q, ¬ (p ++ [j, k]) <+: q → tkG G (park x) [0, i] r (p ++ [j, k]) r q = G r q := fun q hq => tkG_out (fun e => hq e.2) (fun e => np_ne_park hnp x e.1)
      have hnewg : (fun q => tkG G (park x) [0, i] r (p ++ [j, k]) r (p ++ j :: k :: q)) = fun q => G (park x) (0 :: (i + 0) :: q) := by
        funext q
        have := tkG_in G (park x) [0, i] r (p ++ [j, k]) q
        simpa using this
      have hr1 : RelC E G σ.V (w.setCell ⟨b, off + (j * m + k), none⟩ v) (fun q => G (park x) (0 :: (i + 0) :: q)) c v := hr.ext fun q ad c' hq => hW.other _ (hpar _ _ _ hq)
      cases hpe : p with
      | nil =>
        subst hpe
        obtain ⟨t, rfl | rfl | rfl⟩ := np_cases hnp
        · have := hbox rfl; unfold slot at this; omega
        rotate_left
        · have := hbox rfl; unfold ext at this; omega
        rcases h.box' t with h0 | ⟨row, b', cs, e', hrows, hg', hw, hc⟩
        · simp [putCell, h0] at hput
        · rw [hg] at hg'
          simp only [Option.some.injEq, Prod.mk.injEq, Addr.mk.injEq, and_true] at hg'
          obtain ⟨⟨rfl, rfl⟩, rfl⟩ := hg'
          have hput0 := hput
          simp only [putCell, hrows] at hput
          cases j with
          | succ j => simp at hput
          | zero =>
            obtain ⟨ag, old⟩ := row
            simp only [List.getElem?_cons_zero] at hput
            cases hlt : Nat.blt k old.length with
            | false => simp [hlt] at hput
            | true =>
              simp only [hlt, cond_true, Option.some.injEq, List.set_cons_zero] at hput
              subst hput
              simp only [Nat.blt_eq] at hlt
              have hk2 : 0 + (0 * m + k) = k := by omega
              rw [hk2] at hW hr1 ⊢
              have hsz : k < cs.size := by rw [hc.1]; exact hlt
              refine ⟨cs[k], cs, e', hw, Array.getElem?_eq_getElem hsz, h.rootW (box t) hnp _ ([] ++ [0, k]) hGin (by simp) hW hg rfl hGi hGr hGo (fun t' e => absurd e.symm (slot_ne_box t' t)) (fun t' e => ?_) (fun t' e => absurd e (box_ne_ext t t')) hhas⟩
              have hbx : RelBox E G σ.V w (G (box t)) [(ag, old)] := by rw [← hrows]; exact h.box' t
              refine RelBox.store0 hbx hg hlt hW honly (fun q hq => hGin q hq) ?_
              have : (fun q => tkG G (park x) [0, i] (box t) ([] ++ [0, k]) (box t) (0 :: k :: q)) = fun q => G (park x) (0 :: (i + 0) :: q) := hnewg
              rw [this]
              exact hr1
      | cons y p' =>
        have hmok' := hmok
        rw [hpe] at hmok'
        obtain ⟨n', f, hat⟩ := mOk_some hmok'
        have hput' := hput
        simp only [putCell, hpe] at hput'
        split at hput'
        case h_2 => simp at hput'
        rename_i t ht
        obtain ⟨i1, k1, q1, ag, cs, t0, e1, h1, h2, h3⟩ := rowsAt_some hat
        rw [e1] at hput' hat
        have hput2 : rowsPut (σ.get r).rows t (i1 :: k1 :: (q1 ++ [j, k])) = some rows' := by simpa using hput'
        obtain ⟨ag', cs', t0', t2, h1', h2', h3', h4', _⟩ := rows_same hput2 hat
        obtain ⟨hjn, _⟩ := put_lt q1 h4' h3'
        obtain ⟨b', off', cap', cs0, e0, hg', _, hw, _, hh⟩ := h.nested hnp hat (by omega)
        have hpe' : p = i1 :: k1 :: q1 := hpe.trans e1
        rw [← hpe', hg] at hg'
        simp only [Option.some.injEq, Prod.mk.injEq, Addr.mk.injEq, and_true] at hg'
        obtain ⟨⟨rfl, rfl⟩, rfl⟩ := hg'
        obtain ⟨x0, hx0, _⟩ := hh j hjn k hkm
        refine ⟨x0, cs0, e0, hw, hx0, ?_⟩
        rw [← hpe]
        have hst : StG w (w.setCell ⟨b, off + (j * m + k), none⟩ v) (G r) (tkG G (park x) [0, i] r (p ++ [j, k]) r) (i1 :: k1 :: q1) j k m off b cap v t :=
          ⟨by rw [← hpe']; exact hg, hW, by rw [← hpe']; exact honly, by rw [← hpe']; exact hGin, by
            rw [← hpe', hnewg]
            exact ownT_rel hr1 ht⟩
        refine h.rootW r hnp rows' (p ++ [j, k]) hGin (by simp) hW hg rfl hGi hGr hGo (fun t' e => ?_) (fun t' e => ?_) (fun t' e => ?_) hhas
        · subst e
          exact (h.slots t').store hput2 hat hst
        · subst e
          exact (h.box' t').store hput2 hat hst
        · subst e
          exact (h.exts t').store hput2 hat hst
    obtain ⟨x0, cs0, e0, hw0, hx0, hR, hGood⟩ := step
    have hg1 : tkG G (park x) [0, i] r (p ++ [j, k]) r p = some (⟨b, off, none⟩, cap) := by
      rw [tkG_out (fun e => ?_) (fun e => np_ne_park hnp x e.1)]
      · exact hg
      · have := e.2.length_le
        simp at this
        omega
    obtain ⟨w', G', h1, h2⟩ := storeCs_sound (o := o) x hnp hbox l vs ver (k + 1) (i + 1) _ _ _ hR (by simpa using hl) (fun i' c' hi' => by
      obtain ⟨u', hu', hr'⟩ := hp (i' + 1) c' (by simpa using hi')
      refine ⟨u', by simpa using hu', ?_⟩
      have hsame : (fun q => tkG G (park x) [0, i] r (p ++ [j, k]) (park x) (0 :: (i + 1 + i') :: q)) = fun q => G (park x) (0 :: (i + (i' + 1)) :: q) := by
        funext q
        have e : i + 1 + i' = i + (i' + 1) := by omega
        rw [e]
        refine tkG_out (fun e => np_ne_park hnp x e.1.symm) (fun e => ?_)
        have := e.2
        simp only [List.cons_prefix_cons] at this
        omega
      rw [hsame]
      exact (hr'.ext fun q ad c'' hq => (wrote_setCell w b (off + (j * m + k)) v).other _ (hpar _ _ _ hq)).good hGood) hg1 (by omega) hrun3
    refine ⟨w', G', ?_, h2⟩
    have hadd : (⟨b, o, none⟩ : Addr).add i = ⟨b, off + (j * m + k), none⟩ := by rw [addr_add, ho]
    simp only [storeCells, Sem.run_bind, hadd, run_store1 hr.one hw0 hx0, Result.andThen_ok, h1]
theorem ok_store {dst t x y ty pos after guard} : OpOk P φ ⟨dst, .store t x y, ty, pos, after, guard⟩ (opP P ⟨dst, .store t x y, ty, pos, after, guard⟩) := by
  intro E σ a w L σ' L' ⟨G, hG, hp⟩ hrun K Q hK
  obtain ⟨c, σ1, L1, h1, h2⟩ := run_bind hrun
  obtain ⟨rfl, hrel⟩ := peek1_sound hG h1
  split at h2
  case h_2 => exact (run_fail h2).elim
  rename_i pt
  obtain ⟨row, σ2, L2, h3, h4⟩ := run_bind h2
  obtain ⟨G1, hG1, hrow, hgood, _⟩ := takeRow_sound hG 0 (hp 0) h3
  obtain ⟨hb, h5⟩ := run_guard h4
  simp only [Bool.and_eq_true, Bool.not_eq_true'] at hb
  have hlen := beq_eq hb.1
  have hsz : szOf P t ≠ 0 := fun e => by rw [e] at hb; simp [beqT] at hb
  obtain ⟨inf, hi, his⟩ := info_of_sz hsz
  have hne : row.2 ≠ [] := fun e => by rw [e] at hlen; exact hsz hlen.symm
  have hcs := hrow.cells hne
  obtain ⟨u, σ3, L3, h6, h7⟩ := run_bind h5
  have hptr := RelPt.good hgood hrel
  cases pt with
  | pim m g => exact (run_fail (φ := φ) (α := Unit) h6).elim
  | ptr r ver p m j k =>
    obtain ⟨b, o, hv, ⟨hnp, hbox⟩, hle, hval⟩ := hptr
    have hver : σ2.V r p = ver := by
      cases hl : row.2 with
      | nil => exact absurd hl hne
      | cons c l =>
        have h6' : (storeCs r p m j ver k (c :: l)).run φ σ2 L2 = some (u, σ3, L3) := by rw [← hl]; exact h6
        simp only [storeCs, runRd] at h6'
        obtain ⟨hb', _⟩ := run_guard h6'
        simp only [Bool.and_eq_true] at hb'
        exact beq_eq hb'.1.1
    obtain ⟨off, cap, hg, ho⟩ := hval hver
    obtain ⟨w', G', hs, hR⟩ := storeCs_sound (P := P) (φ := φ) 0 hnp hbox row.2 (a.eval y).cells.toList ver k 0 σ2 G1 w hG1 (by rw [← hcs.1]; simp) (fun i' c hi' => by
      obtain ⟨u', hu', hr'⟩ := hcs.2 i' c hi'
      exact ⟨u', by simpa using hu', by rw [Nat.zero_add]; exact hr'⟩) hg (by simpa using ho) h6
    refine wp_skipped (w' := w') ?_ (hK _ _ ?_)
    · have hsz2 : ¬ (a.eval y).cells.size ≠ inf.size := by rw [hcs.1, hlen, his]; simp
      simp only [ne_eq, Decidable.not_not] at hsz2
      simp [execOp, Instr.storeAt, hv, Instr.sureAddr, storeVar, run_sizeOf hi, hsz2, hs]
    · have hS := hR.toS
      obtain ⟨G2, hG2, hp2⟩ := hS
      exact put_sound hG2 0 (rows := [(false, [])]) (show RelRow E G2 σ3.V w' (fun k q => G2 (park 0) (0 :: k :: q)) (false, []) undef from rfl) h7
end
end Go.Mach
