/- Operations that read memory are sound. Conditions: none (lemmas). -/
import Derived.Test.YtkbhcdenfigpoaaM5
set_option linter.all false
namespace Go.Mach
section
variable {P : Program} {φ : Sems} {a : Act} {w : World}
theorem list_of {α : Type} {Q : Nat → α → Prop} : ∀ (n : Nat), (∀ i, i < n → ∃ u, Q i u) → ∃ l : List α, l.length = n ∧ ∀ (i : Nat) u, l[i]? = some u → Q i u
  | 0, _ => ⟨[], rfl, fun i u hi => by simp at hi⟩
  | n + 1, h => by
    obtain ⟨l, hl, hh⟩ := list_of n fun i hi => h i (by omega)
    obtain ⟨u, hu⟩ := h n (by omega)
    refine ⟨l ++ [u], by simp [hl], fun i x hi => ?_⟩
    by_cases e : i < n
    · rw [List.getElem?_append_left (by omega)] at hi
      exact hh i x hi
    · rw [List.getElem?_append_right (by omega), hl] at hi
      have hi0 : i - n = 0 := by
        have := (List.getElem?_eq_some_iff.1 hi).1
        simp at this
        omega
      rw [hi0] at hi
      simp at hi
      subst hi
      have : i = n := by omega
      subst this
      exact hu
/-- A load, of cells that are told one by one. -/
theorem run_loadVar_cells {E G V} (t : TypeId) (b o : Nat) (cs : List C) (hok : okTy P t = true) (hl : cs.length = szA P t)
    (hc : ∀ (i : Nat) c, cs[i]? = some c → ∃ u, w.cell? ⟨b, o + i, none⟩ = some u ∧ RelC E G V w noG c u) :
    ∃ v, (loadVar t ⟨b, o, none⟩).run P w = .ok v w ∧ RelRow E G V w (fun _ => noG) (isAg P t, cs) v := by
  obtain ⟨d, i, hd, hi, hs⟩ := okTy_some hok
  cases hag : isAg P t with
  | true =>
    simp only [szA, hag, cond_true] at hl
    obtain ⟨us, hus, hh⟩ := list_of (Q := fun i u => w.cell? ⟨b, o + i, none⟩ = some u ∧ ∀ c, cs[i]? = some c → RelC E G V w noG c u) cs.length (fun i hi => by
      obtain ⟨u, h1, h2⟩ := hc i cs[i] (List.getElem?_eq_getElem hi)
      exact ⟨u, h1, fun c h => by
        rw [List.getElem?_eq_getElem hi] at h
        obtain rfl := Option.some.inj h
        exact h2⟩)
    have hrun := run_loadCells_list (P := P) (w := w) ⟨b, o, none⟩ us (fun j v hj => by rw [addr_add]; exact (hh j v hj).1)
    have hlen : us.length = i.size := by omega
    rw [hlen] at hrun
    refine ⟨.agg us.toArray, by simp [loadVar, run_isAgg hd, hag, run_sizeOf hi, hrun], us.toArray, rfl, by simp [hus], fun k c hk => ?_⟩
    have hk' : k < us.length := by rw [hus]; exact (List.getElem?_eq_some_iff.1 hk).1
    exact ⟨us[k], by simp [hk'], (hh k us[k] (List.getElem?_eq_getElem hk')).2 c hk⟩
  | false =>
    simp only [szA, hag, cond_false] at hl
    match cs, hl with
    | [c], _ =>
      obtain ⟨u, h1, h2⟩ := hc 0 c rfl
      rw [Nat.add_zero] at h1
      exact ⟨u, by simp [loadVar, run_isAgg hd, hag, h1], h2⟩
theorem Rel.cell0 {E σ G} (h : Rel E σ a w G) {b o : Nat} (hb : E.N b) {u} (hc : E.w0.cell? ⟨b, o, none⟩ = some u) : w.cell? ⟨b, o, none⟩ = some u := by
  unfold World.cell? at *
  rw [h.kept b hb]
  exact hc
theorem cell_of_row' {b i : Nat} {cs : Array Value} {e fr} (h : w.heap[b]? = some (.cells cs e fr)) : w.cell? ⟨b, i, none⟩ = cs[i]? := by simp [World.cell?, h]
/-- What a pointer leads to: the root's content. -/
theorem Rel.nested {E σ G} (h : Rel E σ a w G) {r : Nat} {p : Path} {m n : Nat} {f : Nat → Nat → T} (hnp : notPark r) (hat : rowsAt (σ.get r).rows p = some (.arr m n f)) (hn : 0 < n) :
    ∃ b off cap cs e, G r p = some (⟨b, off, none⟩, cap) ∧ n ≤ cap ∧ w.heap[b]? = some (.cells cs e (0, 0)) ∧ off + cap * m ≤ cs.size ∧
      ∀ j, j < n → ∀ k, k < m → ∃ u, cs[off + (j * m + k)]? = some u ∧ RelOwn w (f j k) (fun q => G r (p ++ j :: k :: q)) u := by
  have : ∃ v', RelOwn w (.arr m n f) (fun q => G r (p ++ q)) v' := by
    obtain ⟨t, rfl | rfl | rfl⟩ := np_cases hnp
    · exact (h.slots t).at hat
    · exact (h.box' t).at hat
    · exact (h.exts t).at hat
  obtain ⟨v', ⟨_, h0, _⟩ | ⟨b, off, cap, cs, e, h1, h2, h3, h4, h5, h6⟩⟩ := this
  · omega
  · exact ⟨b, off, cap, cs, e, by simpa using h1, h3.1, h4, h5, h6⟩
theorem okShape_eq {z : C} {u : T} (h : okShape z u = true) : shapeT z u = u := by
  unfold okShape at h
  split at h <;> rename_i hz
  · cases u <;> simp [T.isI] at h
    subst h; rfl
  · cases u <;> simp [T.isB] at h
    rfl
  · cases u <;> simp [T.isS] at h
    rfl
  · simp only [Bool.and_eq_true] at h
    have h1 := arr_of h.1
    have h2 := beq_eq h.2
    simp only [shapeT]
    rw [← h2]
    exact h1.symm
  · cases h
theorem okShapes_eq {zs : List C} {g : Nat → T} : ∀ {n : Nat}, okShapes zs g n = true → ∀ i, i < n → shapeAt zs g i = g i
  | 0, _, i, hi => by omega
  | n + 1, h, i, hi => by
    simp only [okShapes, Bool.and_eq_true] at h
    by_cases e : i = n
    · subst e
      unfold shapeAt
      cases hz : zs[i]? with
      | none => rfl
      | some z => rw [hz] at h; exact okShape_eq h.2
    · exact okShapes_eq h.1 i (by omega)
theorem okShapes_map {α : Type} {zs : List C} {g : Nat → T} {n : Nat} (h : okShapes zs g n = true) (k : Nat → T → α) : ((List.range n).map fun i => k i (shapeAt zs g i)) = (List.range n).map fun i => k i (g i) :=
  List.map_congr_left fun i hi => by rw [okShapes_eq h i (List.mem_range.1 hi)]
theorem loadP_sound {E σ G} (h : Rel E σ a w G) {t x row L σ' L' v} (hr : RelPt E G σ.V x v) (hrun : (loadP P t x).run φ σ L = some (row, σ', L')) :
    σ' = σ ∧ ∃ b o u, v = .pointer (some ⟨b, o, none⟩) ∧ (loadVar t ⟨b, o, none⟩).run P w = .ok u w ∧ RelRow E G σ.V w (fun _ => noG) row u := by
  cases x with
  | pim m g =>
    obtain ⟨b, o, rfl, hh⟩ := hr
    obtain ⟨hb, hrun⟩ := run_guard hrun
    simp only [Bool.and_eq_true] at hb
    obtain ⟨⟨hok, hle⟩, hsh⟩ := hb
    have hle := Nat.le_of_ble_eq_true hle
    have := run_ret hrun
    simp only [Prod.mk.injEq] at this
    rw [okShapes_map hsh fun _ t => C.tr false t] at this
    obtain ⟨rfl, rfl, rfl⟩ := this
    obtain ⟨u, h1, h2⟩ := run_loadVar_cells (P := P) (w := w) (E := E) (G := G) (V := σ'.V) t b o ((List.range (szA P t)).map fun i => C.tr false (g i)) hok (by simp) (fun i c hi => by
      simp only [List.getElem?_map] at hi
      obtain ⟨i', hi', rfl⟩ := Option.map_eq_some_iff.1 hi
      have hlt : i < szA P t := by have := (List.getElem?_eq_some_iff.1 hi').1; simpa using this
      have : i' = i := by rw [List.getElem?_range hlt] at hi'; exact (Option.some.inj hi').symm
      subst this
      obtain ⟨hN, u, hu, hrel⟩ := hh i' (by omega)
      exact ⟨u, h.cell0 hN hu, hrel⟩)
    exact ⟨rfl, b, o, u, rfl, h1, h2⟩
  | ptr r ver p m j k =>
    obtain ⟨b, o, rfl, ⟨hnp, hbox⟩, hver, hval⟩ := hr
    simp only [loadP, runRd] at hrun
    obtain ⟨hb, hrun⟩ := run_guard hrun
    have hv : (σ.get r).ver p = ver := beq_eq hb
    obtain ⟨off, cap, hg, ho⟩ := hval hv
    match p, hbox, hg, hrun with
    | [], hbox, hg, hrun =>
      obtain ⟨t', rfl | rfl | rfl⟩ := np_cases hnp
      · have := hbox rfl; unfold slot at this; omega
      rotate_left
      · have := hbox rfl; unfold ext at this; omega
      simp only at hrun
      split at hrun
      · rename_i g cs hrow
        obtain ⟨hb, hrun⟩ := run_guard hrun
        simp only [Bool.and_eq_true] at hb
        obtain ⟨hok, hle⟩ := hb
        have hle := Nat.le_of_ble_eq_true hle
        have := run_ret hrun
        simp only [Prod.mk.injEq] at this
        obtain ⟨rfl, rfl, rfl⟩ := this
        rcases h.box' t' with h0 | ⟨row', b', cs', e', hrows, hg', hw, hc⟩
        · rw [h0] at hrow; simp at hrow
        · rw [hrows] at hrow
          rw [hg] at hg'
          simp only [Option.some.injEq, Prod.mk.injEq, Addr.mk.injEq, and_true] at hg'
          obtain ⟨⟨rfl, rfl⟩, rfl⟩ := hg'
          cases j with
          | succ j => simp at hrow
          | zero =>
            simp only [List.getElem?_cons_zero, Option.some.injEq] at hrow
            subst hrow
            obtain ⟨u, h1, h2⟩ := run_loadVar_cells (P := P) (w := w) (E := E) (G := G) (V := σ'.V) t b o (mapI (fun i c => viewC (box t') (σ'.get (box t')).ver [0, k + i] c) 0 ((cs.drop k).take (szA P t))) hok (by simp [mapI_length]; omega) (fun i c hi => by
              rw [mapI_get, Nat.zero_add] at hi
              obtain ⟨c0, hc0, rfl⟩ := Option.map_eq_some_iff.1 hi
              rw [List.getElem?_take] at hc0
              split at hc0
              · rw [List.getElem?_drop] at hc0
                obtain ⟨u, hu, hrel⟩ := hc.2 _ _ hc0
                refine ⟨u, by rw [cell_of_row' hw, ← hu]; congr 1; omega, ?_⟩
                have := RelC.view (pp := [0, k + i]) (np_box t') (by simp) hrel
                exact this
              · simp at hc0)
            exact ⟨rfl, b, o, u, rfl, h1, h2⟩
      · exact (run_fail hrun).elim
    | x :: p', hbox, hg, hrun =>
      simp only at hrun
      · obtain ⟨m', n', f, hat, _, hrun1⟩ := run_arrAt hrun
        replace hrun1 := run_guard hrun1
        obtain ⟨hb, hrun2⟩ := hrun1
        simp only [Bool.and_eq_true, Nat.blt_eq] at hb
        obtain ⟨⟨hok, hm, hj, hle⟩, hsh⟩ := hb
        have hm := beq_eq hm
        subst hm
        have hle := Nat.le_of_ble_eq_true hle
        have := run_ret hrun2
        simp only [Prod.mk.injEq] at this
        rw [okShapes_map hsh fun i t => viewC r (σ.get r).ver (x :: p' ++ [j, k + i]) (C.tr true t)] at this
        obtain ⟨rfl, rfl, rfl⟩ := this
        obtain ⟨b', off', cap', cs, e, hg', _, hw, _, hh⟩ := h.nested hnp hat (by omega)
        rw [hg] at hg'
        simp only [Option.some.injEq, Prod.mk.injEq, Addr.mk.injEq, and_true] at hg'
        obtain ⟨⟨rfl, rfl⟩, rfl⟩ := hg'
        obtain ⟨u, h1, h2⟩ := run_loadVar_cells (P := P) (w := w) (E := E) (G := G) (V := σ'.V) t b o ((List.range (szA P t)).map fun i => viewC r (σ'.get r).ver (x :: p' ++ [j, k + i]) (.tr true (f j (k + i)))) hok (by simp) (fun i c hi => by
          simp only [List.getElem?_map] at hi
          obtain ⟨i', hi', rfl⟩ := Option.map_eq_some_iff.1 hi
          have hlt : i < szA P t := by have := (List.getElem?_eq_some_iff.1 hi').1; simpa using this
          have : i' = i := by rw [List.getElem?_range hlt] at hi'; exact (Option.some.inj hi').symm
          subst this
          obtain ⟨u, hu, hrel⟩ := hh j hj (k + i') (by omega)
          refine ⟨u, by rw [cell_of_row' hw, ← hu]; congr 1; omega, ?_⟩
          have hrel' : RelC E G σ'.V w (fun q => G r ((x :: p' ++ [j, k + i']) ++ q)) (.tr true (f j (k + i'))) u := by
            have : (fun q => G r ((x :: p' ++ [j, k + i']) ++ q)) = fun q => G r (x :: p' ++ j :: (k + i') :: q) := by funext q; simp
            rw [this]; exact hrel
          have := RelC.view (pp := x :: p' ++ [j, k + i']) hnp (by simp) hrel'
          exact this)
        exact ⟨rfl, b, o, u, rfl, h1, h2⟩
theorem ok_load {dst t x ty pos after guard} : OpOk P φ ⟨dst, .load t x, ty, pos, after, guard⟩ (opP P ⟨dst, .load t x, ty, pos, after, guard⟩) := by
  intro E σ a w L σ' L' ⟨G, hG, hp⟩ hrun K Q hK
  obtain ⟨c', σ1, L1, h1, h2⟩ := run_bind hrun
  obtain ⟨rfl, hrel⟩ := peek1_sound hG h1
  split at h2
  · rename_i pt
    obtain ⟨row, σ1, L1, h3, h4⟩ := run_bind h2
    obtain ⟨rfl, b, o, u, hv, hl, hr⟩ := loadP_sound hG hrel h3
    refine wp_value (v := u) (w' := w) (by simp [execOp, Instr.loadAt, hv, Instr.sureAddr, hl]) (hK _ _ (put_sound hG 0 (rows := [row]) (by rw [hp 0]; exact hr) h4))
  · exact (run_fail h2).elim
theorem intC_some {c i} (h : intC c = some i) : ∃ o, c = .tr o (.int .i64 i) := by
  unfold intC at h
  split at h
  · rename_i o n
    simp only [Option.some.injEq] at h
    subst h
    exact ⟨o, rfl⟩
  · simp at h
theorem elemTy_some {t e} (h : elemTy P t = some e) : P.underlying t = some (.slice e) := by
  unfold elemTy at h
  split at h
  · rename_i e' hu
    simp only [Option.some.injEq] at h
    subst h
    exact hu
  · simp at h
theorem isSz_some {m e} (h : isSz P m e = true) : m = szOf P e ∧ m ≠ 0 := by
  simp only [isSz, Bool.and_eq_true, Bool.not_eq_true'] at h
  refine ⟨beq_eq h.1, fun e => ?_⟩
  rw [e] at h
  simp [beqT] at h
theorem run_sizeOf0 {e : TypeId} {m : Nat} (h : m = szOf P e) (hm : m ≠ 0) : (sizeOf e).run P w = .ok m w := by
  obtain ⟨i, hi, hs⟩ := info_of_sz (P := P) (t := e) (by rw [← h]; exact hm)
  rw [run_sizeOf hi, hs, h]
theorem ok_indexAddr {dst t x i ty pos after guard} : OpOk P φ ⟨dst, .indexAddr t x i, ty, pos, after, guard⟩ (opP P ⟨dst, .indexAddr t x i, ty, pos, after, guard⟩) := by
  intro E σ a w L σ' L' ⟨G, hG, hp⟩ hrun K Q hK
  obtain ⟨c, σ1, L1, h1, h2⟩ := run_bind hrun
  obtain ⟨rfl, hrel⟩ := peek1_sound hG h1
  obtain ⟨ci, σ1, L1, h3, h4⟩ := run_bind h2
  obtain ⟨rfl, hreli⟩ := peek1_sound hG h3
  split at h4
  · rename_i iv e hi he
    obtain ⟨oi, rfl⟩ := intC_some hi
    have hvi := relInt hreli
    have hu := elemTy_some he
    split at h4
    · rename_i m n f
      obtain ⟨hb, h4⟩ := run_guard h4
      simp only [Bool.and_eq_true, decide_eq_true_eq, Nat.blt_eq] at hb
      obtain ⟨hi0, hin, hm⟩ := hb
      obtain ⟨hm1, hm2⟩ := isSz_some hm
      obtain ⟨A, cap, hv, hn, hh⟩ := hrel
      obtain ⟨b, off, rfl, hN, hc⟩ := hh (by omega)
      have hlt : iv < n := by omega
      refine wp_value (v := .pointer (some ⟨b, off + iv.toNat * m, none⟩)) (w' := w) ?_ (hK _ _ (put1_sound hG hp (c := .pt (.pim m (f iv.toNat))) ⟨b, _, rfl, fun k hk => ⟨hN, ?_⟩⟩ h4))
      · have : (⟨b, off, none⟩ : Addr).add (iv.toNat * m) = ⟨b, off + iv.toNat * m, none⟩ := addr_add _ _ _
        simp [execOp, Instr.indexAt, hv, hvi, asIntOf, run_underlying hu, hi0, hlt, run_sizeOf0 hm1 hm2, this]
      · obtain ⟨u, hu', hr⟩ := hc iv.toNat hin k hk
        exact ⟨u, by rw [Nat.add_assoc]; exact hu', hr⟩
    · rename_i r ver p m s n
      simp only [runRd] at h4
      obtain ⟨hb, h4⟩ := run_guard h4
      simp only [Bool.and_eq_true, decide_eq_true_eq, Nat.blt_eq] at hb
      obtain ⟨hver, hi0, hin, hm⟩ := hb
      obtain ⟨hm1, hm2⟩ := isSz_some hm
      have hver := beq_eq hver
      obtain ⟨A, cap, hv, hn, ⟨hnp, hpn⟩, hle, hval⟩ := hrel
      have hlt : iv < n := by omega
      have hn0 : 0 < n := by omega
      have hval := hval hver
      obtain ⟨b, off, c, hg, hA⟩ : ∃ b off c, G r p = some (⟨b, off, none⟩, c) ∧ A = some ⟨b, off + s * m, none⟩ := by
        rcases hval with ⟨_, h0, _⟩ | ⟨b, off, c, hg, _, hA⟩
        · exact absurd h0 (by omega)
        · exact ⟨b, off, c, hg, hA hn0⟩
      subst hA
      refine wp_value (v := .pointer (some ⟨b, off + s * m + iv.toNat * m, none⟩)) (w' := w) ?_ (hK _ _ (put1_sound hG hp (c := .pt (.ptr r ver p m (s + iv.toNat) 0)) ⟨b, _, rfl, ⟨hnp, fun e => absurd e hpn⟩, hle, fun _ => ⟨off, c, hg, ?_⟩⟩ h4))
      · have : (⟨b, off + s * m, none⟩ : Addr).add (iv.toNat * m) = ⟨b, off + s * m + iv.toNat * m, none⟩ := addr_add _ _ _
        simp [execOp, Instr.indexAt, hv, hvi, asIntOf, run_underlying hu, hi0, hlt, run_sizeOf0 hm1 hm2, this]
      · rw [Nat.add_mul]; omega
    · exact (run_fail h4).elim
  · exact (run_fail h4).elim
def optV (lo : Option Int) : Option Value := lo.map fun i => .int .i64 i
theorem optInt_sound {E σ G} (h : Rel E σ a w G) {x i L σ' L'} (hrun : (optInt x).run φ σ L = some (i, σ', L')) : σ' = σ ∧ x.map a.eval = optV i := by
  cases x with
  | none =>
    have := run_ret (φ := φ) hrun
    simp only [Prod.mk.injEq] at this
    obtain ⟨rfl, rfl, rfl⟩ := this
    exact ⟨rfl, rfl⟩
  | some x =>
    obtain ⟨c, σ1, L1, h1, h2⟩ := run_bind hrun
    obtain ⟨rfl, hrel⟩ := peek1_sound h h1
    split at h2
    · rename_i i' hi
      have := run_ret (φ := φ) h2
      simp only [Prod.mk.injEq] at this
      obtain ⟨rfl, rfl, rfl⟩ := this
      obtain ⟨o, rfl⟩ := intC_some hi
      exact ⟨rfl, by simp [optV, relInt hrel]⟩
    · exact (run_fail h2).elim
theorem run_sliceBounds (isS : Bool) (len cap : Nat) (lo hi : Option Int) (h0 : 0 ≤ lo.getD 0) (h1 : lo.getD 0 ≤ hi.getD len) (h2 : hi.getD len ≤ len) (h3 : len ≤ cap) :
    (Instr.sliceBounds isS len cap (optV lo) (optV hi) none).run P w = .ok ((lo.getD 0).toNat, (hi.getD len).toNat, cap) w := by
  have h4 : hi.getD len ≤ (cap : Int) := by omega
  cases hi with
  | none =>
    cases lo with
    | none => simp [Instr.sliceBounds, optV]
    | some l =>
      simp only [Option.getD_some, Option.getD_none] at *
      simp [Instr.sliceBounds, optV, Instr.sliceBound, asIntOf, h0, h1]
  | some hh =>
    cases lo with
    | none =>
      simp only [Option.getD_some, Option.getD_none] at *
      simp [Instr.sliceBounds, optV, Instr.sliceBound, asIntOf, h1, h4]
    | some l =>
      simp only [Option.getD_some] at *
      have h5 : 0 ≤ hh := by omega
      have h6 : ¬ (max hh 0 < l) := by omega
      simp [Instr.sliceBounds, optV, Instr.sliceBound, asIntOf, h0, h4, h5, h6]
theorem map_add (A : Option Addr) (b o n : Nat) (h : A = some ⟨b, o, none⟩) : A.map (·.add n) = some ⟨b, o + n, none⟩ := by
  subst h
  simp [addr_add]
theorem ok_slice {dst t x lo hi ty pos after guard} : OpOk P φ ⟨dst, .slice t x lo hi none, ty, pos, after, guard⟩ (opP P ⟨dst, .slice t x lo hi none, ty, pos, after, guard⟩) := by
  intro E σ a w L σ' L' ⟨G, hG, hp⟩ hrun K Q hK
  obtain ⟨c, σ1, L1, h1, h2⟩ := run_bind hrun
  obtain ⟨rfl, hrel⟩ := peek1_sound hG h1
  obtain ⟨lo', σ1, L1, h3, h4⟩ := run_bind h2
  obtain ⟨rfl, hlo⟩ := optInt_sound hG h3
  obtain ⟨hi', σ1, L1, h5, h6⟩ := run_bind h4
  obtain ⟨rfl, hhi⟩ := optInt_sound hG h5
  split at h6
  · rename_i g c' hs
    replace h6 := run_guard h6
    obtain ⟨hb, h7⟩ := h6
    unfold sliceC at hs
    split at hs
    · rename_i e m n f hu
      simp only [Option.some.injEq, Prod.mk.injEq] at hs
      obtain ⟨rfl, rfl⟩ := hs
      simp only [Bool.and_eq_true, decide_eq_true_eq] at hb
      obtain ⟨hm, hb0, hb1, hb2⟩ := hb
      obtain ⟨hm1, hm2⟩ := isSz_some hm
      obtain ⟨A, cap, hv, hn, hh⟩ := hrel
      have hsb := run_sliceBounds (P := P) (w := w) true n cap lo' hi' hb0 hb1 hb2 hn
      generalize hl : (lo'.getD 0).toNat = l at *
      generalize hhh : (hi'.getD (n : Int)).toNat = hh' at *
      have hlh : l ≤ hh' := by omega
      have hhn : hh' ≤ n := by omega
      refine wp_value (v := .slice (if cap = l then A else A.map (·.add (l * m))) (hh' - l) (cap - l)) (w' := w) ?_ (hK _ _ (put1_sound hG hp (c := .tr false (.arr m (hh' - l) (cutT l (hh' - l) f))) ?_ h7))
      · simp [execOp, Instr.sliceAt, Instr.slice, run_underlying hu, hv, hlo, hhi, hsb, run_sizeOf0 hm1 hm2]
      · refine ⟨_, _, rfl, by omega, fun hpos => ?_⟩
        have hne : ¬ cap = l := by omega
        obtain ⟨b, off, hA, hN, hc⟩ := hh (by omega)
        rw [if_neg hne]
        refine ⟨b, off + l * m, map_add _ _ _ _ hA, hN, fun j hj k hk => ?_⟩
        obtain ⟨u, hu', hr⟩ := hc (l + j) (by omega) k hk
        refine ⟨u, ?_, by rw [cutT_in k hj]; exact hr⟩
        have : off + l * m + (j * m + k) = off + ((l + j) * m + k) := by rw [Nat.add_mul]; omega
        rw [this]
        exact hu'
    · rename_i e r ver p m s n hu
      simp only [Option.some.injEq, Prod.mk.injEq] at hs
      obtain ⟨rfl, rfl⟩ := hs
      simp only [Bool.and_eq_true, decide_eq_true_eq] at hb
      obtain ⟨hm, hb0, hb1, hb2⟩ := hb
      obtain ⟨hm1, hm2⟩ := isSz_some hm
      obtain ⟨A, cap, hv, hn, hnp, hle, hval⟩ := hrel
      have hsb := run_sliceBounds (P := P) (w := w) true n cap lo' hi' hb0 hb1 hb2 hn
      generalize hl : (lo'.getD 0).toNat = l at *
      generalize hhh : (hi'.getD (n : Int)).toNat = hh' at *
      have hlh : l ≤ hh' := by omega
      have hhn : hh' ≤ n := by omega
      refine wp_value (v := .slice (if cap = l then A else A.map (·.add (l * m))) (hh' - l) (cap - l)) (w' := w) ?_ (hK _ _ (put1_sound hG hp (c := .ref r ver p m (s + l) (hh' - l)) ?_ h7))
      · simp [execOp, Instr.sliceAt, Instr.slice, run_underlying hu, hv, hlo, hhi, hsb, run_sizeOf0 hm1 hm2]
      · refine ⟨_, _, rfl, by omega, hnp, hle, fun hver => ?_⟩
        rcases hval hver with ⟨g0, rfl, rfl, rfl, rfl⟩ | ⟨b, off, c, hg, hA0, hA⟩
        · left
          have : l = 0 := by omega
          have : hh' = 0 := by omega
          subst l
          subst hh'
          exact ⟨g0, by omega, by omega, by simp, by omega⟩
        · right
          refine ⟨b, off, c, hg, fun h0 => ?_, fun hpos => ?_⟩
          · have hs0 : s = 0 := by omega
            have hl0 : l = 0 := by omega
            obtain ⟨hA1, hc⟩ := hA0 hs0
            subst hl0
            refine ⟨?_, by omega⟩
            split
            · exact hA1
            · rw [map_add _ _ _ _ hA1]; simp
          · have hne : ¬ cap = l := by omega
            rw [if_neg hne, map_add _ _ _ _ (hA (by omega)), Nat.add_mul, Nat.add_assoc]
    · rename_i own str hu
      simp only [Option.some.injEq, Prod.mk.injEq] at hs
      obtain ⟨rfl, rfl⟩ := hs
      simp only [Bool.and_eq_true, decide_eq_true_eq] at hb
      obtain ⟨hb0, hb1, hb2⟩ := hb
      have hv := relStr hrel
      have hsb := run_sliceBounds (P := P) (w := w) false str.size str.size lo' hi' hb0 hb1 hb2 (Nat.le_refl _)
      refine wp_value (v := .string (str.extract (lo'.getD 0).toNat (hi'.getD str.size).toNat)) (w' := w) ?_ (hK _ _ (put1_sound hG hp (c := .tr true (.str (str.extract (lo'.getD 0).toNat (hi'.getD str.size).toNat))) rfl h7))
      simp [execOp, Instr.sliceAt, Instr.slice, run_underlying hu, hv, hlo, hhi, hsb]
    · simp at hs
  · exact (run_fail h6).elim
end
end Go.Mach
