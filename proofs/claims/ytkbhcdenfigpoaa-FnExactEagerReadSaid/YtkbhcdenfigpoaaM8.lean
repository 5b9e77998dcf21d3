/- New arrays and composite values are sound. Conditions: none (lemmas). -/
import Derived.Test.YtkbhcdenfigpoaaM7
set_option linter.all false
namespace Go.Mach
section
variable {P : Program} {φ : Sems} {a : Act} {w : World}
/-- What is in flight is told anew, at park 0. -/
def flyG (G : GG) (γ : Gh) : GG := fun r => if r % 4 = 3 then (if r = park 0 then γ else noG) else G r
theorem flyG_np {G γ r} (h : notPark r) : flyG G γ r = G r := by unfold flyG; rw [if_neg h]
theorem flyG_0 {G γ} : flyG G γ (park 0) = γ := by simp [flyG, park]
theorem flyG_some {G γ r p y} (h : flyG G γ r p = some y) : (r = park 0 ∧ γ p = some y) ∨ (notPark r ∧ G r p = some y) := by
  unfold flyG at h
  split at h
  · split at h
    · exact .inl ⟨‹_›, h⟩
    · simp [noG] at h
  · exact .inr ⟨‹_›, h⟩
theorem Rel.refly {E σ G} (h : Rel E σ a w G) (γ : Gh)
    (h1 : ∀ p ad c, γ p = some (ad, c) → (∃ z p' c', G (park z) p' = some (ad, c')) ∨ (E.w0.heap.size ≤ ad.block ∧ ad.block < w.heap.size ∧ ∀ r p' ad' c', notPark r → G r p' = some (ad', c') → ad'.block ≠ ad.block))
    (h2 : ∀ p p' ad c ad' c', γ p = some (ad, c) → γ p' = some (ad', c') → ad.block = ad'.block → p = p') : Rel E σ a w (flyG G γ) := by
  refine h.parks _ (fun r hr => flyG_np hr) ?_ ?_
  · intro r p r' p' ad c ad' c' g1 g2 hb
    rcases flyG_some g1 with ⟨e1, y1⟩ | ⟨n1, y1⟩ <;> rcases flyG_some g2 with ⟨e2, y2⟩ | ⟨n2, y2⟩
    · exact ⟨e1.trans e2.symm, h2 _ _ _ _ _ _ y1 y2 hb⟩
    · rcases h1 _ _ _ y1 with ⟨z, p1, c1, g⟩ | ⟨_, _, hf⟩
      · exact absurd ((h.inj _ _ _ _ _ _ _ _ g y2 hb).1 ▸ n2) (not_np_park z)
      · exact absurd hb.symm (hf _ _ _ _ n2 y2)
    · rcases h1 _ _ _ y2 with ⟨z, p1, c1, g⟩ | ⟨_, _, hf⟩
      · exact absurd ((h.inj _ _ _ _ _ _ _ _ g y1 hb.symm).1 ▸ n1) (not_np_park z)
      · exact absurd hb (hf _ _ _ _ n1 y1)
    · exact h.inj _ _ _ _ _ _ _ _ y1 y2 hb
  · intro r p ad c g1
    rcases flyG_some g1 with ⟨e1, y1⟩ | ⟨n1, y1⟩
    · rcases h1 _ _ _ y1 with ⟨z, p1, c1, g⟩ | ⟨ha, hb, _⟩
      · exact h.rng _ _ _ _ g
      · exact ⟨.inl ha, hb⟩
    · exact h.rng _ _ _ _ y1
theorem good_fly (G : GG) (V : Nat → Ver) (γ : Gh) : Good G V (flyG G γ) V := fun r hr p => ⟨Nat.le_refl _, fun _ => by rw [flyG_np hr]⟩
/-- The ghost of an array in flight: its block, and what lies in it. -/
def arrG (b off cap : Nat) (S : Path → Option (Addr × Nat)) : Gh
  | [0, 0] => some (⟨b, off, none⟩, cap)
  | 0 :: 0 :: j :: k :: q => S (j :: k :: q)
  | _ => none
theorem arrG_some {b off cap S p y} (h : arrG b off cap S p = some y) : (p = [0, 0] ∧ y = (⟨b, off, none⟩, cap)) ∨ ∃ j k q, p = 0 :: 0 :: j :: k :: q ∧ S (j :: k :: q) = some y := by
  unfold arrG at h
  split at h
  · exact .inl ⟨rfl, (Option.some.inj h).symm⟩
  · rename_i j k q
    exact .inr ⟨j, k, q, rfl, h⟩
  · simp at h
/-- An array of a new block is in flight. -/
theorem Rel.newArr {E σ G} (h : Rel E σ a w G) {cs : Array Value} {e : TypeId} {m n cap : Nat} {f : Nat → Nat → T} (S : Path → Option (Addr × Nat)) (hm : 0 < m) (hsz : cap * m ≤ cs.size) (hn : n ≤ cap)
    (h1 : ∀ j k q ad c, S (j :: k :: q) = some (ad, c) → ∃ z p' c', G (park z) p' = some (ad, c'))
    (h2 : ∀ j k q j' k' q' ad c ad' c', S (j :: k :: q) = some (ad, c) → S (j' :: k' :: q') = some (ad', c') → ad.block = ad'.block → j = j' ∧ k = k' ∧ q = q')
    (hc : ∀ j, j < n → ∀ k, k < m → ∃ u, cs[j * m + k]? = some u ∧ RelOwn w (f j k) (fun q => S (j :: k :: q)) u) :
    Rel E σ a (w.alloc (.cells cs e)) (flyG G (arrG w.heap.size 0 cap S)) ∧ RelOwn (w.alloc (.cells cs e)) (.arr m n f) (fun q => flyG G (arrG w.heap.size 0 cap S) (park 0) (0 :: 0 :: q)) (.slice (some ⟨w.heap.size, 0, none⟩) n cap) := by
  have hlt : ∀ r p ad c, G r p = some (ad, c) → ad.block < w.heap.size := fun r p ad c hg => (h.rng _ _ _ _ hg).2
  have hg := h.grew (grew_alloc w (.cells cs e))
  refine ⟨hg.refly _ ?_ ?_, ?_⟩
  · intro p ad c hp
    rcases arrG_some hp with ⟨_, y⟩ | ⟨j, k, q, _, y⟩
    · cases y
      refine .inr ⟨h.size, by simp, fun r p' ad' c' _ hg' e => ?_⟩
      have := hlt _ _ _ _ hg'
      simp at e
      omega
    · exact .inl (h1 _ _ _ _ _ y)
  · intro p p' ad c ad' c' hp hp' hb
    rcases arrG_some hp with ⟨e1, y⟩ | ⟨j, k, q, e1, y⟩ <;> rcases arrG_some hp' with ⟨e2, y'⟩ | ⟨j', k', q', e2, y'⟩
    · rw [e1, e2]
    · cases y
      obtain ⟨z, p1, c1, g⟩ := h1 _ _ _ _ _ y'
      have := hlt _ _ _ _ g
      simp at hb
      omega
    · cases y'
      obtain ⟨z, p1, c1, g⟩ := h1 _ _ _ _ _ y
      have := hlt _ _ _ _ g
      simp at hb
      omega
    · obtain ⟨rfl, rfl, rfl⟩ := h2 _ _ _ _ _ _ _ _ _ _ y y' hb
      rw [e1, e2]
  · rw [flyG_0]
    refine .inr ⟨w.heap.size, 0, cap, cs, e, rfl, rfl, ⟨hn, hm⟩, heap_alloc_new w _, by omega, fun j hj k hk => ?_⟩
    obtain ⟨u, hu, hr⟩ := hc j hj k hk
    refine ⟨u, by rw [Nat.zero_add]; exact hu, ?_⟩
    have : (fun q => arrG w.heap.size 0 cap S (0 :: 0 :: j :: k :: q)) = fun q => S (j :: k :: q) := rfl
    rw [this]
    refine hr.ext fun q ad c hq => ?_
    obtain ⟨z, p1, c1, g⟩ := h1 _ _ _ _ _ hq
    exact (grew_alloc w _).old _ (hlt _ _ _ _ g)
theorem putArr_sound {E σ G} (h : Rel E σ a w G) {t v dst L σ' L' u} (hr : RelOwn w t (fun q => G (park 0) (0 :: 0 :: q)) v) (hrun : (putT dst t).run φ σ L = some (u, σ', L')) : S E σ' (a.put dst v) w :=
  put_sound h 0 (rows := [(false, [.tr true t])]) hr hrun
theorem wrap_id {i : Int} (h0 : 0 ≤ i) (h1 : i < 9223372036854775808) : IntKind.i64.wrap i = i := by
  unfold IntKind.wrap
  simp only [IntKind.bits, IntKind.signed]
  have : i % 18446744073709551616 = i := Int.emod_eq_of_lt h0 (by omega)
  simp
  omega
theorem zeroOk_some {e : TypeId} (h : zeroOk P e = true) : ∃ z i, P.info? e = some i ∧ i.size = szOf P e ∧ szOf P e ≠ 0 ∧ i.bytes = bytesOf P e ∧ i.zero = some z ∧ z.cells.size = szOf P e ∧ (∀ k, k < szOf P e → ∀ j, ∃ u, z.cells[k]? = some u ∧ RelOwn w (zeroT P e j k) noG u) := by
  unfold zeroOk at h
  simp only [Bool.and_eq_true, Bool.not_eq_true'] at h
  obtain ⟨⟨h1, h2⟩, h3⟩ := h
  have hl := beq_eq h1
  have hs : szOf P e ≠ 0 := fun e => by rw [e] at h2; simp [beqT] at h2
  have hne : (zeroRow P e).2 ≠ [] := fun e => by rw [e] at hl; exact hs hl.symm
  obtain ⟨i, hi, his⟩ := info_of_sz hs
  have hz : ∃ z, i.zero = some z ∧ ∀ E G V, RelRow E G V w (fun _ => noG) (zeroRow P e) z := by
    have hne' := hne
    unfold zeroRow at hne' ⊢
    simp only [hi] at hne' ⊢
    cases hz : i.zero with
    | none => simp [hz] at hne'
    | some v =>
      simp only [hz] at hne' ⊢
      cases hv : ofValue v with
      | none => simp [hv] at hne'
      | some r => exact ⟨v, rfl, fun E G V => typRow_rel (ofValue_rel hv)⟩
  obtain ⟨z, hz, hv⟩ := hz
  have hrel := (hv ⟨w, fun _ => False, 0, fun _ => undef, fun _ => none⟩ (fun _ => noG) fun _ => z0).cells hne
  refine ⟨z, i, hi, his, hs, by simp [bytesOf, hi], hz, by rw [hrel.1, hl], fun k hk j => ?_⟩
  have hk' : k < (zeroRow P e).2.length := by omega
  obtain ⟨u, hu, hr⟩ := hrel.2 k _ (List.getElem?_eq_getElem hk')
  refine ⟨u, hu, ?_⟩
  have hall := List.all_eq_true.1 h3 _ (List.getElem_mem hk')
  have hgt : (zeroRow P e).2[k]? = some (zeroRow P e).2[k] := List.getElem?_eq_getElem hk'
  unfold zeroT
  rw [hgt]
  generalize (zeroRow P e).2[k] = c at hr hall ⊢
  cases c with
  | tr o t => cases o with
    | true => exact hr
    | false => simp at hall
  | _ => simp at hall
theorem range_mod (zc : Array Value) (m n : Nat) (hm : zc.size = m) (hm0 : m ≠ 0) {j k : Nat} (hk : k < m) (hj : j < n) : ((Array.range (n * m)).map (fun i => zc[i % zc.size]!))[j * m + k]? = zc[k]? := by
  have hlt : j * m + k < n * m := by
    have : (j + 1) * m ≤ n * m := Nat.mul_le_mul_right m hj
    rw [Nat.add_mul] at this
    omega
  have hmod : (j * m + k) % m = k := by rw [Nat.mul_comm, Nat.mul_add_mod, Nat.mod_eq_of_lt hk]
  simp only [Array.getElem?_map, Array.getElem?_range, hlt, if_true, Option.map_some, hm, hmod]
  have hk' : k < zc.size := by omega
  simp [hk']
theorem ok_makeSlice {dst t l c ty pos after guard} : OpOk P φ ⟨dst, .makeSlice t l c, ty, pos, after, guard⟩ (opP P ⟨dst, .makeSlice t l c, ty, pos, after, guard⟩) := by
  intro E σ a w L σ' L' ⟨G, hG, hp⟩ hrun K Q hK
  obtain ⟨cl, σ1, L1, h1, h2⟩ := run_bind hrun
  obtain ⟨rfl, hl⟩ := peek1_sound hG h1
  obtain ⟨cc, σ1, L1, h3, h4⟩ := run_bind h2
  obtain ⟨rfl, hc⟩ := peek1_sound hG h3
  split at h4
  case h_2 => exact (run_fail h4).elim
  rename_i l' c' e hl' hc' he
  obtain ⟨o1, rfl⟩ := intC_some hl'
  obtain ⟨o2, rfl⟩ := intC_some hc'
  have hvl := relInt hl
  have hvc := relInt hc
  have hu := elemTy_some he
  obtain ⟨hb, h5⟩ := run_guard h4
  simp only [Bool.and_eq_true, decide_eq_true_eq] at hb
  obtain ⟨hb0, hb1, hb2, hb3⟩ := hb
  have hb2 := Nat.le_of_ble_eq_true hb2
  have hb3 := Nat.le_of_ble_eq_true hb3
  unfold lim at hb2 hb3
  cases hz : zeroOk P e with
  | false => rw [hz] at h5; exact (run_fail (φ := φ) h5).elim
  | true =>
    rw [hz] at h5
    obtain ⟨z, i, hi, his, hs0, hby, hzv, hzs, hzc⟩ := zeroOk_some (P := P) (w := w) hz
    have hwl : IntKind.i64.wrap l' = l' := wrap_id hb0 (by omega)
    have hwc : IntKind.i64.wrap c' = c' := wrap_id (by omega) (by omega)
    have hbig : ¬ ((281474976710656 : Int) < (i.bytes : Int) * c') := by
      have : (c'.toNat : Int) = c' := by omega
      rw [hby]
      have h7 : ((c'.toNat * bytesOf P e : Nat) : Int) ≤ 70368744177664 := by omega
      rw [Int.natCast_mul, this, Int.mul_comm] at h7
      omega
    have hnew := hG.newArr (e := e) (cs := (Array.range (c'.toNat * szOf P e)).map (fun i => z.cells[i % z.cells.size]!)) (m := szOf P e) (n := l'.toNat) (cap := c'.toNat) (f := cutT 0 l'.toNat (zeroT P e)) (fun _ => none) (by omega) (by simp) (by omega) (fun _ _ _ _ _ h => by simp at h) (fun _ _ _ _ _ _ _ _ _ _ h => by simp at h) (fun j hj k hk => by
      obtain ⟨u, hu', hr⟩ := hzc k hk (0 + j)
      rw [cutT_in k hj]
      exact ⟨u, by rw [range_mod z.cells (szOf P e) c'.toNat hzs hs0 hk (by omega)]; exact hu', hr⟩)
    refine wp_value (v := .slice (some ⟨w.heap.size, 0, none⟩) l'.toNat c'.toNat) (w' := w.alloc (.cells ((Array.range (c'.toNat * szOf P e)).map (fun i => z.cells[i % z.cells.size]!)) e)) ?_ (hK _ _ (putArr_sound hnew.1 hnew.2 h5))
    have hc0 : 0 ≤ c' := by omega
    have hnc : ¬ c' < 0 := by omega
    have hnl : ¬ l' < 0 := by omega
    have hnlc : ¬ l' > c' := by omega
    have hti : (typeInfo e).run P w = .ok i w := by simp [typeInfo, hi]
    by_cases hn0 : c'.toNat * szOf P e = 0
    · have hn0' : c'.toNat * i.size = 0 := by rw [his]; exact hn0
      simp [execOp, Instr.makeSlice, run_underlying hu, hvl, hvc, asInt, asIntOf, hti, hwl, hwc, hbig, hnc, hnl, hnlc, run_sizeOf hi, hn0', newRow, hn0, show Array.range 0 = #[] from rfl]
    · have hn0' : ¬ c'.toNat * i.size = 0 := by rw [his]; exact hn0
      have hzr : (zeroValue e).run P w = .ok z w := by simp [zeroValue, typeInfo, hi, hzv]
      simp [execOp, Instr.makeSlice, run_underlying hu, hvl, hvc, asInt, asIntOf, hti, hwl, hwc, hbig, hnc, hnl, hnlc, run_sizeOf hi, hn0, newRow, hzr, his]
theorem grew_drew (w : World) (o : Obj) : Grew w (w.drew.alloc o) := ⟨rfl, rfl, rfl, by simp, fun b hb => Go.RowKit.Below.heap_alloc w.drew o b hb⟩
theorem split_idx {m n i : Nat} (hm : 0 < m) (hi : i < n * m) : i / m < n ∧ i % m < m ∧ i / m * m + i % m = i := by
  refine ⟨?_, Nat.mod_lt _ hm, ?_⟩
  · rw [Nat.div_lt_iff_lt_mul hm]; exact hi
  · rw [Nat.mul_comm]; exact Nat.div_add_mod i m
theorem idx_lt {m n j k : Nat} (hj : j < n) (hk : k < m) : j * m + k < n * m := by
  have : (j + 1) * m ≤ n * m := Nat.mul_le_mul_right m hj
  rw [Nat.add_mul] at this
  omega
/-- What lies in an appended array. -/
def appS (G : GG) (n : Nat) (S2 : Path → Option (Addr × Nat)) : Path → Option (Addr × Nat)
  | j :: k :: q => if j < n then G (park 0) (0 :: 0 :: j :: k :: q) else S2 ((j - n) :: k :: q)
  | _ => none
/-- The appended array, wherever its block lies: its cells are told one by one. -/
theorem appArr {E σ G w1} (h : Rel E σ a w G) (hw : Rel E σ a w1 G) {m n n' cap b off : Nat} {f f' : Nat → Nat → T} {S2 : Path → Option (Addr × Nat)} {cs : Array Value} {e : TypeId}
    (hS1 : ∀ j k q ad c, S2 (j :: k :: q) = some (ad, c) → ∃ p' c', G (park 1) p' = some (ad, c'))
    (hS2 : ∀ j k q j' k' q' ad c ad' c', S2 (j :: k :: q) = some (ad, c) → S2 (j' :: k' :: q') = some (ad', c') → ad.block = ad'.block → j = j' ∧ k = k' ∧ q = q')
    (hb : w1.heap[b]? = some (.cells cs e (0, 0))) (hm : 0 < m) (hn : n + n' ≤ cap) (hsz : off + cap * m ≤ cs.size)
    (hfr : (∃ c', G (park 0) [0, 0] = some (⟨b, off, none⟩, c')) ∨ (w.heap.size ≤ b ∧ b < w1.heap.size))
    (hold : ∀ j, j < n → ∀ k, k < m → ∃ u, cs[off + (j * m + k)]? = some u ∧ RelOwn w (f j k) (fun q => G (park 0) (0 :: 0 :: j :: k :: q)) u)
    (hnew : ∀ j, j < n' → ∀ k, k < m → ∃ u, cs[off + ((n + j) * m + k)]? = some u ∧ RelOwn w (f' j k) (fun q => S2 (j :: k :: q)) u)
    (hkeep : ∀ b', b' < w.heap.size → b' ≠ b → w1.heap[b']? = w.heap[b']?) :
    Rel E σ a w1 (flyG G (arrG b off cap (appS G n S2))) ∧ RelOwn w1 (appT m n f n' f') (fun q => flyG G (arrG b off cap (appS G n S2)) (park 0) (0 :: 0 :: q)) (.slice (some ⟨b, off, none⟩) (n + n') cap) := by
  have hlt : ∀ r p ad c, G r p = some (ad, c) → ad.block < w.heap.size := fun r p ad c hg => (h.rng _ _ _ _ hg).2
  have hor : ∀ j k q ad c, appS G n S2 (j :: k :: q) = some (ad, c) → (j < n ∧ G (park 0) (0 :: 0 :: j :: k :: q) = some (ad, c)) ∨ (n ≤ j ∧ S2 ((j - n) :: k :: q) = some (ad, c)) := by
    intro j k q ad c hs
    simp only [appS] at hs
    split at hs
    · exact .inl ⟨‹_›, hs⟩
    · exact .inr ⟨by omega, hs⟩
  have hpk : ∀ j k q ad c, appS G n S2 (j :: k :: q) = some (ad, c) → (∃ z p' c', G (park z) p' = some (ad, c')) ∧ ad.block ≠ b := by
    intro j k q ad c hs
    have key : ∃ z p' c', G (park z) p' = some (ad, c') ∧ ¬ (z = 0 ∧ p' = [0, 0]) := by
      rcases hor _ _ _ _ _ hs with ⟨_, g⟩ | ⟨_, g⟩
      · exact ⟨0, _, c, g, fun e => by simp at e⟩
      · obtain ⟨p', c', g'⟩ := hS1 _ _ _ _ _ g
        exact ⟨1, p', c', g', fun e => by simp at e⟩
    obtain ⟨z, p', c', g, hne⟩ := key
    refine ⟨⟨z, p', c', g⟩, fun e => ?_⟩
    rcases hfr with ⟨c'', g0⟩ | ⟨hf, _⟩
    · obtain ⟨e1, e2⟩ := h.inj _ _ _ _ _ _ _ _ g g0 e
      exact hne ⟨park_inj e1, e2⟩
    · have := hlt _ _ _ _ g
      omega
  refine ⟨hw.refly _ ?_ ?_, ?_⟩
  · intro p ad c hp
    rcases arrG_some hp with ⟨_, y⟩ | ⟨j, k, q, _, y⟩
    · cases y
      rcases hfr with ⟨c', g⟩ | ⟨hf, hf2⟩
      · exact .inl ⟨0, _, c', g⟩
      · refine .inr ⟨Nat.le_trans h.size hf, hf2, fun r p' ad' c' _ hg' e => ?_⟩
        have := hlt _ _ _ _ hg'
        simp at e
        omega
    · exact .inl (hpk _ _ _ _ _ y).1
  · intro p p' ad c ad' c' hp hp' hbb
    rcases arrG_some hp with ⟨e1, y⟩ | ⟨j, k, q, e1, y⟩ <;> rcases arrG_some hp' with ⟨e2, y'⟩ | ⟨j', k', q', e2, y'⟩
    · rw [e1, e2]
    · cases y
      exact absurd hbb.symm (hpk _ _ _ _ _ y').2
    · cases y'
      exact absurd hbb (hpk _ _ _ _ _ y).2
    · rw [e1, e2]
      rcases hor _ _ _ _ _ y with ⟨l1, g1⟩ | ⟨l1, g1⟩ <;> rcases hor _ _ _ _ _ y' with ⟨l2, g2⟩ | ⟨l2, g2⟩
      · exact (h.inj _ _ _ _ _ _ _ _ g1 g2 hbb).2
      · obtain ⟨p1, c1, g2'⟩ := hS1 _ _ _ _ _ g2
        have := park_inj (h.inj _ _ _ _ _ _ _ _ g1 g2' hbb).1
        omega
      · obtain ⟨p1, c1, g1'⟩ := hS1 _ _ _ _ _ g1
        have := park_inj (h.inj _ _ _ _ _ _ _ _ g1' g2 hbb).1
        omega
      · obtain ⟨e3, rfl, rfl⟩ := hS2 _ _ _ _ _ _ _ _ _ _ g1 g2 hbb
        have : j = j' := by omega
        rw [this]
  · rw [flyG_0]
    refine .inr ⟨b, off, cap, cs, e, rfl, rfl, ⟨hn, hm⟩, hb, hsz, fun j hj k hk => ?_⟩
    have hext : ∀ {t v}, RelOwn w t (fun q => appS G n S2 (j :: k :: q)) v → RelOwn w1 t (fun q => appS G n S2 (j :: k :: q)) v := fun hr => hr.ext fun q ad c hq => by
      obtain ⟨⟨z, p', c', g⟩, hne⟩ := hpk _ _ _ _ _ hq
      exact hkeep _ (hlt _ _ _ _ g) hne
    have hga : (fun q => arrG b off cap (appS G n S2) (0 :: 0 :: j :: k :: q)) = fun q => appS G n S2 (j :: k :: q) := rfl
    rw [hga]
    by_cases hjn : j < n
    · obtain ⟨u, hu, hr⟩ := hold j hjn k hk
      refine ⟨u, hu, ?_⟩
      have hbl : Nat.blt j n = true := by simpa using hjn
      simp only [appF, hbl, cond_true]
      refine hext ?_
      have : (fun q => appS G n S2 (j :: k :: q)) = fun q => G (park 0) (0 :: 0 :: j :: k :: q) := by funext q; simp [appS, hjn]
      rw [this]; exact hr
    · obtain ⟨u, hu, hr⟩ := hnew (j - n) (by omega) k hk
      refine ⟨u, by rw [← hu]; congr 4; omega, ?_⟩
      have hbl : Nat.blt j n = false := by
        cases e : Nat.blt j n
        · rfl
        · exact absurd (by simpa using e) hjn
      simp only [appF, hbl, cond_false]
      refine hext ?_
      have : (fun q => appS G n S2 (j :: k :: q)) = fun q => S2 ((j - n) :: k :: q) := by funext q; simp [appS, hjn]
      rw [this]; exact hr
theorem run_append_room' (t ty e e' : TypeId) (i : TypeInfo) (ht : P.underlying t = some (.slice e)) (hi : P.info? e = some i)
    (g off sLen sCap : Nat) (cur : Array Value) (hg : w.heap[g]? = some (.cells cur e' (0, 0)))
    (A : Option Addr) (m c : Nat) (news : List Value) (hf : (Builtin.firstCells i.size m (.slice A m c)).run P w = .ok news.toArray w) (h1 : ∀ u ∈ news, u.oneCell' = true)
    (hroom : sLen + m ≤ sCap) (hfit : off + sLen * i.size + news.length ≤ cur.size) :
    (Builtin.append_ #[t, t] ty #[.slice (some ⟨g, off, none⟩) sLen sCap, .slice A m c]).run P w =
      .ok (.slice (some ⟨g, off, none⟩) (sLen + m) sCap) (w.setRow g (cur.toList.take (off + sLen * i.size) ++ news ++ cur.toList.drop (off + sLen * i.size + news.length)).toArray) := by
  have hst := run_storeCells_at P g (off + sLen * i.size) e' news 0 cur w hg (by simpa using hfit) h1
  simp only [Nat.add_zero] at hst
  have ha : (⟨g, off, none⟩ : Addr).add (sLen * i.size) = ⟨g, off + sLen * i.size, none⟩ := addr_add _ _ _
  simp [Builtin.append_, run_underlying ht, sizeOf, typeInfo, hi, Builtin.lenOf, hroom, hf, ha, hst]
/-- An append: what the machine's program makes of it. -/
theorem append_core {E σ G} (h : Rel E σ a w G) {t ty e : TypeId} {i : TypeInfo} {z : Value} {m n n' : Nat} {f f' : Nat → Nat → T} {vx : Value} {A : Option Addr} {c' : Nat} {S2 : Path → Option (Addr × Nat)}
    (ht : P.underlying t = some (.slice e)) (hi : P.info? e = some i) (hz : i.zero = some z) (hzs : z.cells.size = i.size) (hs0 : i.size ≠ 0)
    (hx : RelOwn w (.arr m n f) (fun q => G (park 0) (0 :: 0 :: q)) vx) (hm : m = i.size ∨ m = 0)
    (hy : 0 < n' → ∃ b o, A = some ⟨b, o, none⟩ ∧ ∀ j, j < n' → ∀ k, k < i.size → ∃ u, w.cell? ⟨b, o + (j * i.size + k), none⟩ = some u ∧ RelOwn w (f' j k) (fun q => S2 (j :: k :: q)) u)
    (hS1 : ∀ j k q ad c, S2 (j :: k :: q) = some (ad, c) → ∃ p' c', G (park 1) p' = some (ad, c'))
    (hS2 : ∀ j k q j' k' q' ad c ad' c', S2 (j :: k :: q) = some (ad, c) → S2 (j' :: k' :: q') = some (ad', c') → ad.block = ad'.block → j = j' ∧ k = k' ∧ q = q')
    (hby : (n + n') * i.bytes ≤ lim) (hlen : n + n' ≤ lim) :
    ∃ v' w' G', (Builtin.append_ #[t, t] ty #[vx, .slice A n' c']).run P w = .ok v' w' ∧ Rel E σ a w' G' ∧ Good G σ.V G' σ.V ∧ RelOwn w' (appT i.size n f n' f') (fun q => G' (park 0) (0 :: 0 :: q)) v' := by
  unfold lim at hby hlen
  have hm0 : 0 < i.size := by omega
  -- the appended cells, as a list
  obtain ⟨news, hnl, hnews, hfc⟩ : ∃ news : List Value, news.length = n' * i.size ∧ (∀ j, j < n' → ∀ k, k < i.size → ∃ u, news[j * i.size + k]? = some u ∧ RelOwn w (f' j k) (fun q => S2 (j :: k :: q)) u) ∧
      (0 < n' → ∃ b o, A = some ⟨b, o, none⟩ ∧ ∀ j u, news[j]? = some u → w.cell? ((⟨b, o, none⟩ : Addr).add j) = some u) := by
    by_cases h0 : 0 < n'
    · obtain ⟨b, o, hA, hc⟩ := hy h0
      obtain ⟨us, hus, hh⟩ := list_of (Q := fun x u => w.cell? ⟨b, o + x, none⟩ = some u ∧ RelOwn w (f' (x / i.size) (x % i.size)) (fun q => S2 ((x / i.size) :: (x % i.size) :: q)) u) (n' * i.size) (fun x hx => by
        obtain ⟨h1, h2, h3⟩ := split_idx hm0 hx
        obtain ⟨u, hu, hr⟩ := hc _ h1 _ h2
        rw [h3] at hu
        exact ⟨u, hu, hr⟩)
      refine ⟨us, hus, fun j hj k hk => ?_, fun _ => ⟨b, o, hA, fun j u hu => by rw [addr_add]; exact (hh j u hu).1⟩⟩
      have hl : j * i.size + k < us.length := by rw [hus]; exact idx_lt hj hk
      have hd : (j * i.size + k) / i.size = j := by rw [Nat.mul_comm, Nat.mul_add_div hm0, Nat.div_eq_of_lt hk]; omega
      have hmd : (j * i.size + k) % i.size = k := by rw [Nat.mul_comm, Nat.mul_add_mod, Nat.mod_eq_of_lt hk]
      have := (hh _ _ (List.getElem?_eq_getElem hl)).2
      rw [hd, hmd] at this
      exact ⟨_, List.getElem?_eq_getElem hl, this⟩
    · have : n' = 0 := by omega
      subst this
      exact ⟨[], by simp, fun j hj => by omega, fun hh => by omega⟩
  have hone : ∀ u ∈ news, u.oneCell' = true := fun u hu => by
    obtain ⟨x, hx⟩ := List.getElem?_of_mem hu
    have hxl : x < n' * i.size := by rw [← hnl]; exact (List.getElem?_eq_some_iff.1 hx).1
    obtain ⟨h1, h2, h3⟩ := split_idx hm0 hxl
    obtain ⟨u', hu', hr⟩ := hnews _ h1 _ h2
    rw [h3, hx] at hu'
    obtain rfl := Option.some.inj hu'
    exact hr.one
  have hfirst : (Builtin.firstCells i.size n' (.slice A n' c')).run P w = .ok news.toArray w := by
    by_cases h0 : 0 < n'
    · obtain ⟨b, o, rfl, hc⟩ := hfc h0
      exact run_firstCells_some (P := P) w i.size n' ⟨b, o, none⟩ n' c' news hnl hc
    · have h00 : n' = 0 := by omega
      subst h00
      have : news = [] := List.eq_nil_of_length_eq_zero (by simpa using hnl)
      subst this
      cases A with
      | none => simp [Builtin.firstCells]
      | some b => simp [Builtin.firstCells, loadCells, loadCellsFrom]
  have hgz : ∀ need old, need ≤ grownCap w need old e := fun need old => grownCap_ge w need old e
  rcases hx with ⟨g0, rfl, rfl⟩ | ⟨b, off, cap, cs, e', g0, rfl, hn, hb, hsz, hc⟩
  · by_cases h0 : n' = 0
    · subst h0
      have hnil : news = [] := List.eq_nil_of_length_eq_zero (by simpa using hnl)
      subst hnil
      refine ⟨.slice none 0 0, w, G, ?_, h, Good.refl _ _, .inl ⟨g0, rfl, rfl⟩⟩
      simp [Builtin.append_, run_underlying ht, sizeOf, typeInfo, hi, Builtin.lenOf, hfirst]
    · obtain ⟨bb, o, rfl, hcc⟩ := hfc (by omega)
      have hr := run_append_nil (P := P) w t ty e i z ht hi hz ⟨bb, o, none⟩ n' c' news hnl hcc (by omega) (by omega) (by simp only [Nat.zero_add] at hby; omega)
      have hge := hgz n' 0
      have hgr := grew_drew w (.cells (news.toArray ++ Builtin.zeroCells z.cells (grownCap w n' 0 e - n')) e)
      have hA := appArr (w := w) (m := i.size) (n := 0) (n' := n') (cap := grownCap w n' 0 e) (off := 0) (f := f) (f' := f') h (h.grew hgr) hS1 hS2 (heap_alloc_new w.drew _) hm0 (by omega) (by
        simp only [Array.size_append, List.size_toArray, size_zeroCells, hzs, hnl, ← Nat.add_mul]
        rw [Nat.zero_add]
        exact Nat.mul_le_mul_right _ (by omega)) (.inr ⟨Nat.le_refl _, by simp⟩) (fun j hj => by omega) (fun j hj k hk => by
        obtain ⟨u, hu, hrr⟩ := hnews j hj k hk
        refine ⟨u, ?_, hrr⟩
        rw [Nat.zero_add, Nat.zero_add, Array.getElem?_append_left (by simp; rw [hnl]; exact idx_lt hj hk)]
        simpa using hu) (fun b' hb' _ => hgr.old b' hb')
      refine ⟨_, _, _, hr, hA.1, good_fly _ _ _, ?_⟩
      have := hA.2
      rw [Nat.zero_add] at this
      exact this
  · have hmi : m = i.size := by rcases hm with h1 | h1 <;> omega
    subst hmi
    by_cases hroom : n + n' ≤ cap
    · have hfit : off + n * i.size + news.length ≤ cs.size := by
        have : (n + n') * i.size ≤ cap * i.size := Nat.mul_le_mul_right _ hroom
        rw [Nat.add_mul] at this
        omega
      have hr := run_append_room' (P := P) (w := w) t ty e e' i ht hi b off n cap cs hb A n' c' news hfirst hone hroom hfit
      have hW : Rel E σ a (w.setRow b (cs.toList.take (off + n * i.size) ++ news ++ cs.toList.drop (off + n * i.size + news.length)).toArray) G := by
        refine h.world' rfl rfl rfl (by simp) (fun b' hb' => setRow_other w b b' _ (fun e => ?_)) (fun r p ad c hr' hg => setRow_other w b _ _ (fun e => ?_))
        · have := (h.rng _ _ _ _ g0).1
          rw [e] at hb'
          rcases this with h1 | h1
          · have := hb'.1; simp at h1; omega
          · exact hb'.2 h1
        · exact np_ne_park hr' 0 (h.inj _ _ _ _ _ _ _ _ hg g0 e).1
      have hA := appArr (w := w) (m := i.size) (n := n) (n' := n') (cap := cap) (off := off) (f := f) (f' := f') h hW hS1 hS2 (setRow_heap w b cs _ e' _ hb) hm0 hroom (by
        simp only [List.size_toArray, List.length_append, List.length_take, List.length_drop, Array.length_toList]
        omega) (.inl ⟨cap, g0⟩) (fun j hj k hk => by
        obtain ⟨u, hu, hrr⟩ := hc j hj k hk
        refine ⟨u, ?_, hrr⟩
        have := idx_lt hj hk
        rw [List.getElem?_toArray, List.append_assoc, List.getElem?_append_left (by simp; omega), List.getElem?_take, if_pos (by omega)]
        simpa using hu) (fun j hj k hk => by
        obtain ⟨u, hu, hrr⟩ := hnews j hj k hk
        refine ⟨u, ?_, hrr⟩
        have := idx_lt hj hk
        have e1 : (cs.toList.take (off + n * i.size)).length = off + n * i.size := by simp; omega
        rw [List.getElem?_toArray, List.append_assoc, List.getElem?_append_right (by rw [e1, Nat.add_mul]; omega), e1, List.getElem?_append_left (by rw [hnl, Nat.add_mul]; omega), ← hu]
        congr 1
        rw [Nat.add_mul]; omega) (fun b' _ hne => setRow_other w b b' _ hne)
      exact ⟨_, _, _, hr, hA.1, good_fly _ _ _, hA.2⟩
    · -- the old cells, as a list
      obtain ⟨olds, hol, hoh⟩ := list_of (Q := fun x u => cs[off + x]? = some u ∧ RelOwn w (f (x / i.size) (x % i.size)) (fun q => G (park 0) (0 :: 0 :: (x / i.size) :: (x % i.size) :: q)) u) (n * i.size) (fun x hx => by
        obtain ⟨h1, h2, h3⟩ := split_idx hm0 hx
        obtain ⟨u, hu, hr⟩ := hc _ h1 _ h2
        rw [h3] at hu
        exact ⟨u, hu, hr⟩)
      have hpos : 0 < n' := by omega
      obtain ⟨bb, o, rfl, hcc⟩ := hfc hpos
      have hr := run_append_grow (P := P) w t ty e i z ht hi hz ⟨b, off, none⟩ n cap olds hol (fun j v hj => by rw [addr_add, cell_of_row' hb]; exact (hoh j v hj).1) ⟨bb, o, none⟩ n' c' news hnl hcc (by omega) (by omega) (growslice_fits (by omega) (by omega))
      have hge := hgz (n + n') cap
      have hgr := grew_drew w (.cells (olds.toArray ++ news.toArray ++ Builtin.zeroCells z.cells (grownCap w (n + n') cap e - (n + n'))) e)
      have hA := appArr (w := w) (m := i.size) (n := n) (n' := n') (cap := grownCap w (n + n') cap e) (off := 0) (f := f) (f' := f') h (h.grew hgr) hS1 hS2 (heap_alloc_new w.drew _) hm0 (by omega) (by
        simp only [Array.size_append, List.size_toArray, size_zeroCells, hzs, hnl, hol, ← Nat.add_mul]
        rw [Nat.zero_add]
        exact Nat.mul_le_mul_right _ (by omega)) (.inr ⟨Nat.le_refl _, by simp⟩) (fun j hj k hk => by
        have hlt := idx_lt hj hk
        have hd : (j * i.size + k) / i.size = j := by rw [Nat.mul_comm, Nat.mul_add_div hm0, Nat.div_eq_of_lt hk]; omega
        have hmd : (j * i.size + k) % i.size = k := by rw [Nat.mul_comm, Nat.mul_add_mod, Nat.mod_eq_of_lt hk]
        have hl : j * i.size + k < olds.length := by omega
        have := (hoh _ _ (List.getElem?_eq_getElem hl)).2
        rw [hd, hmd] at this
        refine ⟨_, ?_, this⟩
        rw [Nat.zero_add, Array.getElem?_append_left (by simp; omega), Array.getElem?_append_left (by simpa using hl)]
        simp) (fun j hj k hk => by
        obtain ⟨u, hu, hrr⟩ := hnews j hj k hk
        refine ⟨u, ?_, hrr⟩
        have hlt := idx_lt hj hk
        rw [Nat.zero_add, Array.getElem?_append_left (by simp only [Array.size_append, List.size_toArray, hol, hnl, Nat.add_mul]; omega), Array.getElem?_append_right (by simp only [List.size_toArray, hol, Nat.add_mul]; omega)]
        simp only [List.size_toArray, hol, List.getElem?_toArray]
        rw [← hu]
        congr 1
        rw [Nat.add_mul]; omega) (fun b' hb' _ => hgr.old b' hb')
      exact ⟨_, _, _, hr, hA.1, good_fly _ _ _, hA.2⟩
theorem own_plain {t : T} {g : Gh} {v : Value} (h : RelOwn w t g v) : RelOwn w t.plain noG v := by
  cases t with
  | arr m n f => exact h.one
  | lent m n => exact h.one
  | _ => exact h
theorem im_plain {w0 : World} {N : Nat → Prop} {t : T} {v : Value} (h : RelIm w0 N t v) : RelOwn w t.plain noG v := by
  cases t with
  | arr m n f => exact h.one
  | lent m n => exact h.one
  | _ => exact h
theorem im_cells {E σ G} (h : Rel E σ a w G) {m n : Nat} {f : Nat → Nat → T} {v : Value} (hr : RelIm E.w0 E.N (.arr m n f) v) : ∃ A c, v = .slice A n c ∧
    (0 < n → ∃ b o, A = some ⟨b, o, none⟩ ∧ ∀ j, j < n → ∀ k, k < m → ∃ u, w.cell? ⟨b, o + (j * m + k), none⟩ = some u ∧ RelOwn w (f j k).plain noG u) := by
  obtain ⟨A, c, rfl, _, hh⟩ := hr
  refine ⟨A, c, rfl, fun h0 => ?_⟩
  obtain ⟨b, o, hA, hN, hc⟩ := hh h0
  refine ⟨b, o, hA, fun j hj k hk => ?_⟩
  obtain ⟨u, hu, hrr⟩ := hc j hj k hk
  exact ⟨u, h.cell0 hN hu, im_plain hrr⟩
/-- What a reference leads to. -/
theorem ref_cells {E σ G} (h : Rel E σ a w G) {r ver : Nat} {p : Path} {m s n : Nat} {v : Value} (hr : RelC E G σ.V w noG (.ref r ver p m s n) v) (hver : (σ.get r).ver p = ver) {n' : Nat} {f : Nat → Nat → T}
    (hat : rowsAt (σ.get r).rows p = some (.arr m n' f)) (hle : s + n ≤ n') : ∃ A c, v = .slice A n c ∧
    (0 < n → ∃ b o, A = some ⟨b, o, none⟩ ∧ b < w.heap.size ∧ ∀ j, j < n → ∀ k, k < m → ∃ u, w.cell? ⟨b, o + (j * m + k), none⟩ = some u ∧ RelOwn w (f (s + j) k) (fun q => G r (p ++ (s + j) :: k :: q)) u) := by
  obtain ⟨A, cap, rfl, hn, ⟨hnp, _⟩, _, hval⟩ := hr
  refine ⟨A, cap, rfl, fun h0 => ?_⟩
  obtain ⟨b, off, cap', cs, e, hg, _, hw, _, hh⟩ := h.nested hnp hat (by omega)
  rcases hval hver with ⟨hg0, _⟩ | ⟨b', off', c', hg', _, hA⟩
  · rw [hg] at hg0; cases hg0
  · rw [hg] at hg'
    simp only [Option.some.injEq, Prod.mk.injEq, Addr.mk.injEq, and_true] at hg'
    obtain ⟨⟨rfl, rfl⟩, rfl⟩ := hg'
    refine ⟨b, off + s * m, hA h0, (Array.getElem?_eq_some_iff.1 hw).1, fun j hj k hk => ?_⟩
    obtain ⟨u, hu, hrr⟩ := hh (s + j) (by omega) k hk
    refine ⟨u, ?_, hrr⟩
    rw [cell_of_row' hw, ← hu]
    congr 1
    rw [Nat.add_mul]; omega
theorem u8_of {t : T} (h : t.isI .u8 = true) : t = .int .u8 t.toI := by
  cases t with
  | int k n => simp only [T.isI, decide_eq_true_eq] at h; subst h; rfl
  | _ => simp [T.isI] at h
theorem isU8_some {e : TypeId} (h : isU8 P e = true) : P.underlying e = some (.int .u8) := by
  unfold isU8 at h
  split at h
  · assumption
  · cases h
theorem allU8_at {n : Nat} {f : Nat → Nat → T} (h : allU8 n f = true) {j : Nat} (hj : j < n) : (f j 0).isI .u8 = true := by
  unfold allU8 at h
  exact List.all_eq_true.1 h j (List.mem_range.2 hj)
theorem numsOf_get {n : Nat} {f : Nat → Nat → T} {j : Nat} (hj : j < n) : (numsOf n f).getD j 0 = (f j 0).toI := by
  unfold numsOf
  rw [List.getD_eq_getElem?_getD, List.getElem?_map, List.getElem?_range hj]
  rfl
theorem ok_convert {dst s d x ty pos after guard} : OpOk P φ ⟨dst, .convert s d x, ty, pos, after, guard⟩ (opP P ⟨dst, .convert s d x, ty, pos, after, guard⟩) := by
  intro E σ a w L σ' L' ⟨G, hG, hp⟩ hrun K Q hK
  obtain ⟨c', σ1, L1, h1, h2⟩ := run_bind hrun
  obtain ⟨rfl, hrel⟩ := peek1_sound hG h1
  have fin : ∀ {e : TypeId} {A : Option Addr} {n cap : Nat} {f : Nat → Nat → T} {L2}, P.underlying s = some (.slice e) → P.underlying d = some .string → isU8 P e = true → allU8 n f = true → a.eval x = .slice A n cap →
      (0 < n → ∃ b o, A = some ⟨b, o, none⟩ ∧ ∀ j, j < n → ∃ u, w.cell? ⟨b, o + j, none⟩ = some u ∧ RelOwn w (f j 0).plain noG u) → (putT dst (.str (strOfNums (numsOf n f)))).run φ σ1 L2 = some ((), σ', L') →
      Oper.wp P ⟨dst, .convert s d x, ty, pos, after, guard⟩ a w K Q := by
    intro e A n cap f L2 hs hd he hall hv hc hput
    refine wp_value (v := .string (strOfNums (numsOf n f))) (w' := w) ?_ (hK _ _ (putT_sound hG hp (t := .str (strOfNums (numsOf n f))) rfl hput))
    have he' := isU8_some he
    simp only [execOp, hv, Sem.run_bind]
    by_cases h0 : 0 < n
    · obtain ⟨b, o, rfl, hcell⟩ := hc h0
      rw [run_convert_bytes_arg (P := P) w s e hs he' b o n cap (numsOf n f) (by simp [numsOf]) (fun i hi => by
        obtain ⟨u, hu, hr⟩ := hcell i hi
        rw [u8_of (allU8_at hall hi)] at hr
        rw [hu, numsOf_get hi]
        exact congrArg some hr) d hd]
      rfl
    · have : n = 0 := by omega
      subst this
      cases A with
      | none =>
        rw [run_convert_bytes_nil (P := P) (w := w) s e hs he' 0 cap d hd]
        rfl
      | some ad =>
        have hz : (convert s d (.slice (some ad) 0 cap)).run P w = .ok (.string (strOfNums [])) w := by
          rw [run_convert_bytes_string w s d e _ 0 cap hs he' hd]
          rw [run_bytesToString w ad 0 cap [] (by simp [loadCells, loadCellsFrom])]
          rfl
        rw [hz]
        rfl
  simp only at h2
  split at h2
  · rename_i k0 k own k1 n hs hd
    have hv := relInt hrel
    refine wp_value (v := .int k (k.wrap n)) (w' := w) ?_ (hK _ _ (putT_sound hG hp (t := .int k (k.wrap n)) rfl h2))
    simp [execOp, convert, run_underlying hs, run_underlying hd, hv, Conv.intToInt]
  · rename_i e own m n f hs hd
    obtain ⟨hb, h3⟩ := run_guard h2
    simp only [Bool.and_eq_true] at hb
    obtain ⟨he, hm, hall⟩ := hb
    have hm := beq_eq hm
    subst hm
    cases own with
    | false =>
      obtain ⟨A, c, hv, hc⟩ := im_cells hG hrel
      exact fin hs hd he hall hv (fun h0 => by
        obtain ⟨b, o, hA, hh⟩ := hc h0
        refine ⟨b, o, hA, fun j hj => ?_⟩
        obtain ⟨u, hu, hr⟩ := hh j hj 0 (by omega)
        exact ⟨u, by simpa using hu, hr⟩) h3
    | true =>
      rcases hrel with ⟨_, rfl, hv⟩ | ⟨b, off, cap, cs, e', hg, _⟩
      · exact fin hs hd he hall hv (fun h0 => by omega) h3
      · simp [noG] at hg
  · rename_i e r ver p m s0 n hs hd
    simp only [runRd] at h2
    obtain ⟨m', n', f, hat, _, h3⟩ := run_arrAt h2
    obtain ⟨hb, h4⟩ := run_guard h3
    simp only [Bool.and_eq_true] at hb
    obtain ⟨hver, hmm, hle, he, hm, hall⟩ := hb
    have hmm := beq_eq hmm
    have hm := beq_eq hm
    subst hmm
    subst hm
    obtain ⟨A, c, hv, hc⟩ := ref_cells hG hrel (beq_eq hver) hat (Nat.le_of_ble_eq_true hle)
    exact fin hs hd he hall hv (fun h0 => by
      obtain ⟨b, o, hA, _, hh⟩ := hc h0
      refine ⟨b, o, hA, fun j hj => ?_⟩
      obtain ⟨u, hu, hr⟩ := hh j hj 0 (by omega)
      refine ⟨u, by simpa using hu, ?_⟩
      rw [cutT_in 0 hj]
      exact own_plain hr) h4
  · exact (run_fail h2).elim
theorem ok_min {dst x y ts ty pos after guard} : OpOk P φ ⟨dst, .call ⟨.builtin .min, ⟨[x, y]⟩, ts⟩, ty, pos, after, guard⟩ ((peek1 x).bind fun x => (peek1 y).bind fun y => match x, y with
        | .tr _ (.int k a), .tr _ (.int k' b) => guardP (decide (k = k')) (putT dst (.int k (if b < a then b else a)))
        | _, _ => .fail) := by
  intro E σ a w L σ' L' ⟨G, hG, hp⟩ hrun K Q hK
  obtain ⟨c1, σ1, L1, h1, h2⟩ := run_bind hrun
  obtain ⟨rfl, hr1⟩ := peek1_sound hG h1
  obtain ⟨c2, σ2, L2, h3, h4⟩ := run_bind h2
  obtain ⟨rfl, hr2⟩ := peek1_sound hG h3
  split at h4
  · rename_i o k n o' k' n'
    obtain ⟨hb, h5⟩ := run_guard h4
    have hk := of_decide_eq_true hb
    subst hk
    have hv1 := relInt hr1
    have hv2 := relInt hr2
    refine wp_value (v := .int k (if n' < n then n' else n)) (w' := w) ?_ (hK _ _ (putT_sound hG hp (t := .int k (if n' < n then n' else n)) rfl h5))
    simp [execOp, resolve, invoke, builtin, Builtin.min_, Builtin.min2, hv1, hv2]
  · exact (run_fail h4).elim
theorem run_call_append {t ty : TypeId} {x y : Operand} {dst pos after guard v w'} (h : (Builtin.append_ #[t, t] ty #[a.eval x, a.eval y]).run P w = .ok v w') :
    (execOp a.eval ⟨dst, .call ⟨.builtin .append, #[x, y], #[t, t]⟩, ty, pos, after, guard⟩).run P w = .ok (.value v) w' := by
  simp [execOp, resolve, invoke, builtin, h]
theorem guard_append {m n m' n' : Nat} {e : TypeId} (h : ((Nat.beq m (szOf P e) || Nat.beq m 0) && ((Nat.beq m' (szOf P e) || Nat.beq n' 0) && (zeroOk P e && (Nat.ble ((n + n') * bytesOf P e) lim && Nat.ble (n + n') lim)))) = true) :
    ∃ i z, P.info? e = some i ∧ i.zero = some z ∧ z.cells.size = i.size ∧ i.size ≠ 0 ∧ i.size = szOf P e ∧ (m = i.size ∨ m = 0) ∧ (m' = i.size ∨ n' = 0) ∧ (n + n') * i.bytes ≤ lim ∧ n + n' ≤ lim := by
  simp only [Bool.and_eq_true, Bool.or_eq_true] at h
  obtain ⟨h1, h2, h3, h4, h5⟩ := h
  obtain ⟨z, i, hi, his, hs0, hby, hz, hzs, _⟩ := zeroOk_some (P := P) (w := default) h3
  refine ⟨i, z, hi, hz, by rw [hzs, his], by rw [his]; exact hs0, his, ?_, ?_, by rw [hby]; exact Nat.le_of_ble_eq_true h4, Nat.le_of_ble_eq_true h5⟩
  · rw [his]; exact h1.imp beq_eq beq_eq
  · rw [his]; exact h2.imp beq_eq beq_eq
theorem ok_append {dst t e x y ty pos after guard} (he : elemTy P t = some e) : OpOk P φ ⟨dst, .call ⟨.builtin .append, #[x, y], #[t, t]⟩, ty, pos, after, guard⟩ (appendP P e dst x y) := by
  intro E σ a w L σ' L' ⟨G, hG, hp⟩ hrun K Q hK
  have hu := elemTy_some he
  obtain ⟨row, σ1, L1, h1, h2⟩ := run_bind hrun
  obtain ⟨G1, hG1, hrow, hgood1, hpk1⟩ := takeRow_sound hG 0 (hp 0) h1
  split at h2
  case h_2 => exact (run_fail h2).elim
  rename_i m n f
  have hx : RelOwn w (.arr m n f) (fun q => G1 (park 0) (0 :: 0 :: q)) (a.eval x) := hrow
  have hp1 : G1 (park 1) = noG := by rw [hpk1 1 (by omega)]; exact hp 1
  obtain ⟨yc, σ2, L2, h3, h4⟩ := run_bind h2
  obtain ⟨rfl, hy⟩ := peek1_sound hG1 h3
  -- a flat source
  have flat : ∀ {m' n' : Nat} {f' : Nat → Nat → T} {A : Option Addr} {c : Nat} {L3}, a.eval y = .slice A n' c →
      (∀ i : TypeInfo, (m' = i.size ∨ n' = 0) → 0 < n' → ∃ b o, A = some ⟨b, o, none⟩ ∧ ∀ j, j < n' → ∀ k, k < i.size → ∃ u, w.cell? ⟨b, o + (j * i.size + k), none⟩ = some u ∧ RelOwn w (f' j k).plain noG u) →
      (appendFlat P e dst m n f m' n' f').run φ σ2 L3 = some ((), σ', L') → Oper.wp P ⟨dst, .call ⟨.builtin .append, #[x, y], #[t, t]⟩, ty, pos, after, guard⟩ a w K Q := by
    intro m' n' f' A c L3 hv hc hr
    obtain ⟨hb, hr⟩ := run_guard hr
    obtain ⟨i, z, hi, hz, hzs, hs0, hsz, hm, hm', hby, hlen⟩ := guard_append hb
    obtain ⟨v', w', G', hrun', hG', _, hown⟩ := append_core (P := P) (ty := ty) (f' := fun j k => (f' j k).plain) (S2 := fun _ => none) hG1 hu hi hz hzs hs0 hx hm (hc i hm') (fun _ _ _ _ _ h => by simp at h) (fun _ _ _ _ _ _ _ _ _ _ h => by simp at h) hby hlen
    rw [← hsz] at hr
    exact wp_value (run_call_append (by rw [hv]; exact hrun')) (hK _ _ (putArr_sound hG' hown hr))
  split at h4
  · rename_i own m' n' f'
    cases own with
    | false =>
      obtain ⟨A, c, hv, hc⟩ := im_cells hG1 hy
      refine flat hv (fun i hm' h0 => ?_) h4
      obtain ⟨b, o, hA, hh⟩ := hc h0
      have : m' = i.size := by omega
      subst this
      exact ⟨b, o, hA, hh⟩
    | true =>
      rcases hy with ⟨_, rfl, hv⟩ | ⟨b, off, cap, cs, e', g, _⟩
      · exact flat hv (fun i _ h0 => by omega) h4
      · simp [noG] at g
  · rename_i r ver p m' s n'
    cases hfl : flatTy P e with
    | true =>
      simp only [hfl, cond_true] at h4
      obtain ⟨c, σ3, L3, h5, h6⟩ := run_bind h4
      simp only [resC, runRd] at h5
      · obtain ⟨m0, n0, f0, hat, _, h5a⟩ := run_arrAt h5
        replace h5a := run_guard h5a
        obtain ⟨hb, h5b⟩ := h5a
        simp only [Bool.and_eq_true] at hb
        obtain ⟨hb1, hb2, hb3⟩ := hb
        have e1 := beq_eq hb1
        have e2 := beq_eq hb2
        have e3 := Nat.le_of_ble_eq_true hb3
        subst e2
        have := run_ret h5b
        simp only [Prod.mk.injEq] at this
        obtain ⟨rfl, rfl, rfl⟩ := this
        obtain ⟨A, c, hv, hc⟩ := ref_cells hG1 hy e1 hat e3
        refine flat hv (fun i hm' h0 => ?_) h6
        obtain ⟨b, o, hA, _, hh⟩ := hc h0
        have : m' = i.size := by omega
        subst this
        exact ⟨b, o, hA, fun j hj k hk => let ⟨u, hu, hr⟩ := hh j hj k hk; ⟨u, hu, by rw [cutT_in k hj]; exact own_plain hr⟩⟩
    | false =>
      simp only [hfl, cond_false] at h4
      obtain ⟨c, σ3, L3, h5, h6⟩ := run_bind h4
      obtain ⟨G2, hG2, hc2, hgood2, hpk2⟩ := take_sound hG1 φ 1 0 0 (fun q => by rw [hp1]; rfl) hy h5
      split at h6
      · rename_i m0 n0 f0
        have hx2 : RelOwn w (.arr m n f) (fun q => G2 (park 0) (0 :: 0 :: q)) (a.eval x) := by
          have : (fun q => G2 (park 0) (0 :: 0 :: q)) = fun q => G1 (park 0) (0 :: 0 :: q) := by
            funext q
            exact hpk2 0 _ (fun e => by simp at e)
          rw [this]; exact hx
        obtain ⟨hb, h6⟩ := run_guard h6
        obtain ⟨i, z, hi, hz, hzs, hs0, hsz, hm, hm', hby, hlen⟩ := guard_append hb
        have hyy : ∃ A c, a.eval y = .slice A n0 c ∧ (0 < n0 → ∃ b o, A = some ⟨b, o, none⟩ ∧ ∀ j, j < n0 → ∀ k, k < i.size → ∃ u, w.cell? ⟨b, o + (j * i.size + k), none⟩ = some u ∧ RelOwn w (f0 j k) (fun q => G2 (park 1) (0 :: 0 :: j :: k :: q)) u) := by
          rcases hc2 with ⟨_, rfl, hv⟩ | ⟨b, off, cap, cs, e', g, hv, _, hw, _, hh⟩
          · exact ⟨_, _, hv, fun h => by omega⟩
          · refine ⟨_, _, hv, fun h0 => ⟨b, off, rfl, fun j hj k hk => ?_⟩⟩
            have : m0 = i.size := by omega
            subst this
            obtain ⟨u, hu, hr⟩ := hh j hj k hk
            exact ⟨u, by rw [cell_of_row' hw]; exact hu, hr⟩
        obtain ⟨A, c, hv, hc⟩ := hyy
        obtain ⟨v', w', G', hrun', hG', _, hown⟩ := append_core (P := P) (ty := ty) (f' := f0) (S2 := fun q => G2 (park 1) (0 :: 0 :: q)) hG2 hu hi hz hzs hs0 hx2 hm hc (fun j k q ad c h => ⟨_, c, h⟩) (fun j k q j' k' q' ad c ad' c' h h' hbb => by
          have := (hG2.inj _ _ _ _ _ _ _ _ h h' hbb).2
          simp only [List.cons.injEq, true_and] at this
          exact ⟨this.1, this.2.1, this.2.2⟩) hby hlen
        rw [← hsz] at h6
        exact wp_value (run_call_append (by rw [hv]; exact hrun')) (hK _ _ (putArr_sound hG' hown h6))
      · exact (run_fail h6).elim
  · exact (run_fail h4).elim
theorem takeParts_sound {E : Env} : ∀ (l : List (Nat × Operand)) (z0 : Nat) (σ : St) (G : GG), Rel E σ a w G → (∀ y, z0 ≤ y → G (park y) = noG) → ∀ {L rs σ' L'}, (takeParts l).run φ σ L = some (rs, σ', L') →
    ∃ G', Rel E σ' a w G' ∧ rs.length = l.length ∧ (∀ (i : Nat) idx row, rs[i]? = some (idx, row) → ∃ x, l[i]? = some (idx, x) ∧ RelRow E G' σ'.V w (fun k q => G' (park (z0 + i)) (0 :: k :: q)) row (a.eval x)) ∧ Good G σ.V G' σ'.V ∧ ∀ y, y < z0 → G' (park y) = G (park y)
  | [], z0, σ, G, h, _, L, rs, σ', L', hrun => by
    have := run_ret (φ := φ) hrun
    simp only [Prod.mk.injEq] at this
    obtain ⟨rfl, rfl, rfl⟩ := this
    exact ⟨G, h, rfl, fun i idx row hi => by simp at hi, Good.refl _ _, fun _ _ => rfl⟩
  | (i0, x) :: l, z0, σ, G, h, hp, L, rs, σ', L', hrun => by
    obtain ⟨row, σ1, L1, h1, h2⟩ := run_bind hrun
    obtain ⟨G1, hG1, hr1, hgood1, hpk1⟩ := takeRow_sound h z0 (hp z0 (Nat.le_refl _)) h1
    obtain ⟨rs', σ2, L2, h3, h4⟩ := run_bind h2
    obtain ⟨G2, hG2, hl, hrs, hgood2, hpk2⟩ := takeParts_sound l (z0 + 1) σ1 G1 hG1 (fun y hy => by rw [hpk1 y (by omega)]; exact hp y (by omega)) h3
    have := run_ret h4
    simp only [Prod.mk.injEq] at this
    obtain ⟨rfl, rfl, rfl⟩ := this
    refine ⟨G2, hG2, by simp [hl], fun i idx row' hi => ?_, hgood1.trans hgood2, fun y hy => by rw [hpk2 y (by omega), hpk1 y (by omega)]⟩
    cases i with
    | zero =>
      simp only [List.getElem?_cons_zero, Option.some.injEq, Prod.mk.injEq] at hi
      obtain ⟨rfl, rfl⟩ := hi
      refine ⟨x, rfl, ?_⟩
      have e : z0 + 0 = z0 := rfl
      rw [e]
      have := hpk2 z0 (by omega)
      rw [this]
      exact hr1.good hgood2
    | succ i =>
      obtain ⟨x', hx', hr'⟩ := hrs i idx row' (by simpa using hi)
      refine ⟨x', by simpa using hx', ?_⟩
      have e : z0 + (i + 1) = z0 + 1 + i := by omega
      rw [e]
      exact hr'
/-- A part's cells, laid into a row of cells. -/
theorem laid_list (off : Nat) : ∀ (l : List Value) (s : Nat) (cells : Array Value), off + s + l.length ≤ cells.size →
    ((l.zipIdx s).foldl (fun cs (x : Value × Nat) => cs.setIfInBounds (off + x.2) x.1) cells).size = cells.size ∧
    ∀ i, ((l.zipIdx s).foldl (fun cs (x : Value × Nat) => cs.setIfInBounds (off + x.2) x.1) cells)[i]? = if off + s ≤ i ∧ i < off + s + l.length then l[i - (off + s)]? else cells[i]?
  | [], s, cells, _ => ⟨rfl, fun i => by rw [if_neg (by simp only [List.length_nil]; omega)]; rfl⟩
  | v :: l, s, cells, hl => by
    simp only [List.length_cons] at hl
    obtain ⟨h1, h2⟩ := laid_list off l (s + 1) (cells.setIfInBounds (off + s) v) (by simp; omega)
    refine ⟨by simpa [List.zipIdx_cons] using h1, fun i => ?_⟩
    simp only [List.zipIdx_cons, List.foldl_cons]
    rw [h2]
    simp only [List.length_cons]
    by_cases e1 : i = off + s
    · subst e1
      rw [if_neg (by omega), if_pos (by omega), Array.getElem?_setIfInBounds_self_of_lt (by omega)]
      simp
    · by_cases e2 : off + (s + 1) ≤ i ∧ i < off + (s + 1) + l.length
      · rw [if_pos e2, if_pos (by omega)]
        obtain ⟨d, hd⟩ : ∃ d, i = off + (s + 1) + d := ⟨i - (off + (s + 1)), by omega⟩
        subst hd
        have e3 : off + (s + 1) + d - (off + (s + 1)) = d := by omega
        have e4 : off + (s + 1) + d - (off + s) = d + 1 := by omega
        rw [e3, e4]
        simp
      · rw [if_neg e2, if_neg (by omega), Array.getElem?_setIfInBounds_ne (by omega)]
theorem laid (off : Nat) (vs cells : Array Value) (hl : off + vs.size ≤ cells.size) :
    (vs.zipIdx.foldl (fun cs (x : Value × Nat) => cs.setIfInBounds (off + x.2) x.1) cells).size = cells.size ∧
    ∀ i, (vs.zipIdx.foldl (fun cs (x : Value × Nat) => cs.setIfInBounds (off + x.2) x.1) cells)[i]? = if off ≤ i ∧ i < off + vs.size then vs[i - off]? else cells[i]? := by
  rw [← Array.foldl_toList, Array.toList_zipIdx]
  have := laid_list off vs.toList 0 cells (by simpa using hl)
  simpa using this
/-- The parts of a slice's literal, in order, all of them. -/
theorem fill_rows (m : Nat) : ∀ (l : List (Nat × Value)) (s : Nat) (cells : Array Value), (∀ (i : Nat) idx v, l[i]? = some (idx, v) → idx = s + i ∧ v.cells.size = m) → (s + l.length) * m ≤ cells.size →
    ∃ cs, Instr.fill (fun i => some (i * m, m)) cells l = some cs ∧ cs.size = cells.size ∧ (∀ j, j < s → ∀ k, k < m → cs[j * m + k]? = cells[j * m + k]?) ∧
      ∀ (j : Nat) idx v, l[j]? = some (idx, v) → ∀ k, k < m → cs[(s + j) * m + k]? = v.cells[k]?
  | [], s, cells, _, _ => ⟨cells, rfl, rfl, fun _ _ _ _ => rfl, fun j idx v hj => by simp at hj⟩
  | (i0, v) :: l, s, cells, h, hsz => by
    obtain ⟨e0, hv⟩ := h 0 i0 v rfl
    have e0 : i0 = s := by simpa using e0
    subst e0
    have hfit : i0 * m + v.cells.size ≤ cells.size := by
      simp only [List.length_cons] at hsz
      have : (i0 + 1) * m ≤ (i0 + (l.length + 1)) * m := Nat.mul_le_mul_right m (by omega)
      rw [Nat.add_mul] at this
      omega
    obtain ⟨l1, l2⟩ := laid (i0 * m) v.cells cells hfit
    obtain ⟨cs, h1, h2, h3, h4⟩ := fill_rows m l (i0 + 1) (v.cells.zipIdx.foldl (fun cs (x : Value × Nat) => cs.setIfInBounds (i0 * m + x.2) x.1) cells) (fun i idx v' hi => by
      obtain ⟨a1, a2⟩ := h (i + 1) idx v' (by simpa using hi)
      exact ⟨by omega, a2⟩) (by
      rw [l1]
      simp only [List.length_cons] at hsz
      have : i0 + 1 + l.length = i0 + (l.length + 1) := by omega
      rw [this]; exact hsz)
    refine ⟨cs, ?_, by rw [h2, l1], fun j hj k hk => ?_, fun j idx v' hj k hk => ?_⟩
    · simp only [Instr.fill]
      rw [if_neg (by
        simp only [bne_iff_ne, ne_eq, Bool.or_eq_true, decide_eq_true_eq]
        omega)]
      exact h1
    · rw [h3 j (by omega) k hk, l2, if_neg]
      have := idx_lt hj hk
      omega
    · cases j with
      | zero =>
        simp only [List.getElem?_cons_zero, Option.some.injEq, Prod.mk.injEq] at hj
        obtain ⟨_, rfl⟩ := hj
        rw [Nat.add_zero, h3 i0 (by omega) k hk, l2, if_pos (by omega)]
        congr 1
        omega
      | succ j =>
        have := h4 j idx v' (by simpa using hj) k hk
        have e : i0 + (j + 1) = i0 + 1 + j := by omega
        rw [e]
        exact this
theorem litRows_some {m : Nat} : ∀ {l : List (Nat × Row)} {s : Nat} {rs : List (List T)}, litRows m s l = some rs → rs.length = l.length ∧ ∀ (i : Nat) idx row, l[i]? = some (idx, row) → idx = s + i ∧ row.2.length = m ∧ ∃ ts, ownTs row.2 = some ts ∧ rs[i]? = some ts
  | [], s, rs, h => by
    simp only [litRows, Option.some.injEq] at h
    subst h
    exact ⟨rfl, fun i idx row hi => by simp at hi⟩
  | (j, r) :: l, s, rs, h => by
    simp only [litRows] at h
    cases hb : (Nat.beq s j && Nat.beq r.2.length m) with
    | false => simp [hb] at h
    | true =>
      simp only [hb, cond_true] at h
      simp only [Bool.and_eq_true] at hb
      have e1 := beq_eq hb.1
      have e2 := beq_eq hb.2
      split at h
      · rename_i ts rs' h1 h2
        simp only [Option.some.injEq] at h
        subst h
        obtain ⟨h3, h4⟩ := litRows_some h2
        refine ⟨by simp [h3], fun i idx row hi => ?_⟩
        cases i with
        | zero =>
          simp only [List.getElem?_cons_zero, Option.some.injEq, Prod.mk.injEq] at hi
          obtain ⟨rfl, rfl⟩ := hi
          exact ⟨by omega, e2, ts, h1, rfl⟩
        | succ i =>
          obtain ⟨a1, a2, ts', a3, a4⟩ := h4 i idx row (by simpa using hi)
          exact ⟨by omega, a2, ts', a3, by simpa using a4⟩
      · simp at h
theorem ownTs_some : ∀ {cs : List C} {ts : List T}, ownTs cs = some ts → ts.length = cs.length ∧ ∀ (k : Nat) c, cs[k]? = some c → ∃ t, ts[k]? = some t ∧ ownT c = some t
  | [], ts, h => by
    simp only [ownTs, Option.some.injEq] at h
    subst h
    exact ⟨rfl, fun k c hk => by simp at hk⟩
  | c :: cs, ts, h => by
    simp only [ownTs] at h
    split at h
    · rename_i t ts' h1 h2
      simp only [Option.some.injEq] at h
      subst h
      obtain ⟨h3, h4⟩ := ownTs_some h2
      refine ⟨by simp [h3], fun k c' hk => ?_⟩
      cases k with
      | zero => simp at hk; subst hk; exact ⟨t, rfl, h1⟩
      | succ k => simpa using h4 k c' (by simpa using hk)
    · simp at h
theorem ok_buildSlice {dst t len ps ty pos after guard} : OpOk P φ ⟨dst, .buildSlice t len ps, ty, pos, after, guard⟩ (opP P ⟨dst, .buildSlice t len ps, ty, pos, after, guard⟩) := by
  intro E σ a w L σ' L' ⟨G, hG, hp⟩ hrun K Q hK
  simp only [opP] at hrun
  split at hrun
  case h_2 => exact (run_fail hrun).elim
  rename_i e he
  have hu := elemTy_some he
  cases hb : (Nat.ble (len * szOf P e) 16777216 && (Nat.beq ps.size len && zeroOk P e)) with
  | false => rw [hb] at hrun; exact (run_fail (φ := φ) (α := Unit) hrun).elim
  | true =>
    rw [hb] at hrun
    simp only [Bool.and_eq_true] at hb
    have hb1 := Nat.le_of_ble_eq_true hb.1
    have hb2 := beq_eq hb.2.1
    obtain ⟨z, inf, hi, his, hs0, _, hzv, hzs, _⟩ := zeroOk_some (P := P) (w := w) hb.2.2
    obtain ⟨rs, σ1, L1, h1, h2⟩ := run_bind (φ := φ) (p := takeParts ps.toList) hrun
    obtain ⟨G1, hG1, hl, hrs, _, _⟩ := takeParts_sound ps.toList 1 σ G hG (fun y _ => hp y) h1
    split at h2
    case h_2 => exact (run_fail h2).elim
    rename_i rows hrows
    obtain ⟨hl2, hlit⟩ := litRows_some hrows
    have hlen : rs.length = len := by rw [hl, ← hb2]; simp
    have hcell : ∀ (i : Nat) idx row, rs[i]? = some (idx, row) → ∃ x, ps.toList[i]? = some (idx, x) ∧ idx = i ∧ RelCs E G1 σ1.V w (fun k q => G1 (park (1 + i)) (0 :: k :: q)) row.2 (a.eval x).cells ∧ (a.eval x).cells.size = szOf P e ∧ ∃ ts, ownTs row.2 = some ts ∧ rows[i]? = some ts := by
      intro i idx row hi'
      obtain ⟨x, hx, hr⟩ := hrs i idx row hi'
      obtain ⟨a1, a2, ts, a3, a4⟩ := hlit i idx row hi'
      have hne : row.2 ≠ [] := fun e0 => by rw [e0] at a2; exact hs0 (by simpa using a2.symm)
      have hc := hr.cells hne
      exact ⟨x, hx, by omega, hc, by rw [hc.1, a2], ts, a3, a4⟩
    obtain ⟨cs, hf1, hf2, _, hf4⟩ := fill_rows (szOf P e) (ps.toList.map fun x => (x.1, a.eval x.2)) 0 ((Array.range (len * szOf P e)).map (fun i => (if len * szOf P e = 0 then #[] else z.cells)[i % (if len * szOf P e = 0 then #[] else z.cells).size]!)) (fun i idx v hi' => by
      simp only [List.getElem?_map] at hi'
      obtain ⟨y, hy, hy'⟩ := Option.map_eq_some_iff.1 hi'
      simp only [Prod.mk.injEq] at hy'
      obtain ⟨rfl, rfl⟩ := hy'
      have hlt : i < rs.length := by rw [hl]; exact (List.getElem?_eq_some_iff.1 hy).1
      obtain ⟨x, hx, e1, _, hsz, _⟩ := hcell i rs[i].1 rs[i].2 (List.getElem?_eq_getElem hlt)
      rw [hy] at hx
      obtain rfl := Option.some.inj hx
      exact ⟨by omega, hsz⟩) (by simp [hb2])
    have hnew := hG1.newArr (e := e) (cs := cs) (m := szOf P e) (n := len) (cap := len) (f := rowsT rows) (fun q => match q with | j :: k :: q => G1 (park (1 + j)) (0 :: k :: q) | _ => none) (by omega) (by rw [hf2]; simp) (Nat.le_refl _) (fun j k q ad c h => ⟨_, _, c, h⟩) (fun j k q j' k' q' ad c ad' c' h h' hbb => by
      obtain ⟨e1, e2⟩ := hG1.inj _ _ _ _ _ _ _ _ h h' hbb
      have := park_inj e1
      simp only [List.cons.injEq, true_and] at e2
      exact ⟨by omega, e2.1, e2.2⟩) (fun j hj k hk => by
      have hlt : j < rs.length := by omega
      obtain ⟨x, hx, e1, hc, hsz, ts, hts, hr⟩ := hcell j rs[j].1 rs[j].2 (List.getElem?_eq_getElem hlt)
      obtain ⟨ht1, ht2⟩ := ownTs_some hts
      have hk' : k < rs[j].2.2.length := by rw [← hc.1, hsz]; exact hk
      obtain ⟨u, hu', hrel⟩ := hc.2 k _ (List.getElem?_eq_getElem hk')
      obtain ⟨tt, htt, hown⟩ := ht2 k _ (List.getElem?_eq_getElem hk')
      refine ⟨u, ?_, ?_⟩
      · have := hf4 j rs[j].1 (a.eval x) (by simp only [List.getElem?_map, hx, Option.map_some]) k hk
        rw [Nat.zero_add] at this
        rw [this]; exact hu'
      · have : rowsT rows j k = tt := by simp [rowsT, List.getD_eq_getElem?_getD, hr, htt]
        rw [this]
        exact ownT_rel hrel hown)
    refine wp_value (v := .slice (some ⟨w.heap.size, 0, none⟩) len len) (w' := w.alloc (.cells cs e)) ?_ (hK _ _ (putArr_sound hnew.1 hnew.2 h2))
    have hbig : ¬ (16777216 < len * inf.size) := by rw [his]; omega
    have hzr : (zeroValue e).run P w = .ok z w := by simp [zeroValue, typeInfo, hi, hzv]
    by_cases h0 : len * szOf P e = 0
    · have h0' : len * inf.size = 0 := by rw [his]; exact h0
      have e0 : ∀ g : Nat → Value, (Array.range 0).map g = #[] := fun g => by simp
      rw [if_pos h0, h0, e0, ← his] at hf1
      simp only [execOp, Instr.buildSlice, Sem.run_bind, run_underlying hu, Result.andThen_ok, run_sizeOf hi, gt_iff_lt, Nat.reducePow, if_neg hbig, if_pos h0', Sem.run_pure, h0', e0, Array.toList_map, hf1, newRow, run_newObj]
      rfl
    · have h0' : ¬ len * inf.size = 0 := by rw [his]; exact h0
      rw [if_neg h0] at hf1
      rw [← his] at hf1
      simp [execOp, Instr.buildSlice, run_underlying hu, run_sizeOf hi, hbig, h0', newRow, hzr, hf1]
theorem setCells_spec : ∀ (l : List C) (off : Nat) (cs : List C), off + l.length ≤ cs.length → (setCells off l cs).length = cs.length ∧ ∀ K, (setCells off l cs)[K]? = if off ≤ K ∧ K < off + l.length then l[K - off]? else cs[K]?
  | [], off, cs, _ => ⟨rfl, fun K => by rw [if_neg (by simp only [List.length_nil]; omega)]; rfl⟩
  | c :: l, off, cs, hl => by
    simp only [List.length_cons] at hl
    obtain ⟨h1, h2⟩ := setCells_spec l (off + 1) (cs.set off c) (by simp; omega)
    refine ⟨by simpa [setCells] using h1, fun K => ?_⟩
    simp only [setCells, List.length_cons]
    rw [h2]
    by_cases e1 : K = off
    · subst e1
      rw [if_neg (by omega), if_pos (by omega), List.getElem?_set_self (by omega)]
      simp
    · by_cases e2 : off + 1 ≤ K ∧ K < off + 1 + l.length
      · rw [if_pos e2, if_pos (by omega)]
        obtain ⟨d, rfl⟩ : ∃ d, K = off + 1 + d := ⟨K - (off + 1), by omega⟩
        have e3 : off + 1 + d - (off + 1) = d := by omega
        have e4 : off + 1 + d - off = d + 1 := by omega
        rw [e3, e4]
        simp
      · rw [if_neg e2, if_neg (by omega), List.getElem?_set_ne (by omega)]
/-- The ghosts of a composite value's cells: each comes from one part in flight. -/
structure GamOk (G : GG) (z : Nat) (γ : Nat → Gh) : Prop where
  src : ∀ K q y, γ K q = some y → ∃ z' k', z' < z ∧ G (park z') (0 :: k' :: q) = some y
  inj : ∀ K q K' q' ad c ad' c', γ K q = some (ad, c) → γ K' q' = some (ad', c') → ad.block = ad'.block → K = K' ∧ q = q'
theorem build_sound {E σ G} (h : Rel E σ a w G) {V : Nat → Ver} {t : TypeId} {fs : Array Field} (hu : P.underlying t = some (.struct fs)) (place : Nat → Option (Nat × Nat)) (hpl : ∀ (i : Nat) f, fs[i]? = some f → place i = some (f.offset, szOf P f.type)) :
    ∀ (l : List (Nat × Row)) (vl : List (Nat × Value)) (z : Nat) (γ : Nat → Gh) (cs : List C) (zs : Array Value) (cs' : List C), RelCs E G V w γ cs zs → GamOk G z γ → vl.length = l.length →
    (∀ (i : Nat) idx row, l[i]? = some (idx, row) → ∃ v, vl[i]? = some (idx, v) ∧ RelRow E G V w (fun k q => G (park (z + i)) (0 :: k :: q)) row v) → buildRow P t l cs = some cs' →
    ∃ zs' z' γ', Instr.fill place zs vl = some zs' ∧ RelCs E G V w γ' cs' zs' ∧ GamOk G z' γ'
  | [], vl, z, γ, cs, zs, cs', hc, hγ, hl, _, hb => by
    simp only [buildRow, Option.some.injEq] at hb
    subst hb
    have : vl = [] := List.eq_nil_of_length_eq_zero hl
    subst this
    exact ⟨zs, z, γ, rfl, hc, hγ⟩
  | (i0, r) :: l, vl, z, γ, cs, zs, cs', hc, hγ, hl, hp, hb => by
    match vl, hl, hp with
    | (j0, v) :: vl, hl, hp =>
    obtain ⟨v', hv', hr⟩ := hp 0 i0 r rfl
    simp only [List.getElem?_cons_zero, Option.some.injEq, Prod.mk.injEq] at hv'
    obtain ⟨rfl, rfl⟩ := hv'
    simp only [buildRow] at hb
    split at hb
    case h_2 => simp at hb
    rename_i off ft hf
    obtain ⟨fs', f, hu', hfk, ho, hft⟩ := fieldOf_some hf
    rw [hu] at hu'
    simp only [Option.some.injEq, TypeDesc.struct.injEq] at hu'
    subst hu'
    cases hg : (!Nat.beq (szOf P ft) 0 && (Nat.beq r.2.length (szOf P ft) && Nat.ble (off + szOf P ft) cs.length)) with
    | false => simp [hg] at hb
    | true =>
      simp only [hg, cond_true] at hb
      simp only [Bool.and_eq_true, Bool.not_eq_true'] at hg
      have g1 := beq_eq hg.2.1
      have g2 := Nat.le_of_ble_eq_true hg.2.2
      have hcs := hr.cells (fun e => by
        rw [e] at g1
        have h0 := hg.1
        rw [← g1] at h0
        simp [beqT] at h0)
      have hvs : v.cells.size = szOf P ft := by rw [hcs.1, g1]
      obtain ⟨s1, s2⟩ := setCells_spec r.2 off cs (by omega)
      obtain ⟨l1, l2⟩ := laid off v.cells zs (by rw [hvs, hc.1]; exact g2)
      have hpl' : place j0 = some (off, szOf P ft) := by rw [hpl j0 f hfk, ho, hft]
      obtain ⟨zs', z', γ', h1, h2, h3⟩ := build_sound h hu place hpl l vl (z + 1) (fun K => if off ≤ K ∧ K < off + szOf P ft then fun q => G (park z) (0 :: (K - off) :: q) else γ K) (setCells off r.2 cs)
        (v.cells.zipIdx.foldl (fun cs (x : Value × Nat) => cs.setIfInBounds (off + x.2) x.1) zs) cs' ⟨by rw [l1, s1]; exact hc.1, fun K c hK => by
          rw [s2] at hK
          rw [g1] at hK
          rw [l2, hvs]
          by_cases e : off ≤ K ∧ K < off + szOf P ft
          · rw [if_pos e] at hK ⊢
            obtain ⟨u, hu1, hu2⟩ := hcs.2 _ _ hK
            refine ⟨u, hu1, ?_⟩
            simp only [if_pos e]
            exact hu2
          · rw [if_neg e] at hK ⊢
            obtain ⟨u, hu1, hu2⟩ := hc.2 _ _ hK
            refine ⟨u, hu1, ?_⟩
            simp only [if_neg e]
            exact hu2⟩ ⟨fun K q y hy => by
          split at hy
          · exact ⟨z, _, by omega, hy⟩
          · obtain ⟨z1, k1, hlt, hh⟩ := hγ.src _ _ _ hy
            exact ⟨z1, k1, by omega, hh⟩, fun K q K' q' ad c ad' c' hy hy' hbb => by
          split at hy <;> split at hy'
          · have := (h.inj _ _ _ _ _ _ _ _ hy hy' hbb).2
            simp only [List.cons.injEq, true_and] at this
            exact ⟨by omega, this.2⟩
          · obtain ⟨z1, k1, hlt, hh⟩ := hγ.src _ _ _ hy'
            have := park_inj (h.inj _ _ _ _ _ _ _ _ hy hh hbb).1
            omega
          · obtain ⟨z1, k1, hlt, hh⟩ := hγ.src _ _ _ hy
            have := park_inj (h.inj _ _ _ _ _ _ _ _ hh hy' hbb).1
            omega
          · exact hγ.inj _ _ _ _ _ _ _ _ hy hy' hbb⟩ (by simpa using hl) (fun i idx row hi => by
          obtain ⟨v', hv', hr'⟩ := hp (i + 1) idx row (by simpa using hi)
          refine ⟨v', by simpa using hv', ?_⟩
          have e : z + 1 + i = z + (i + 1) := by omega
          rw [e]; exact hr') hb
      refine ⟨zs', z', γ', ?_, h2, h3⟩
      simp only [Instr.fill, hpl']
      rw [if_neg (by
        have := hc.1
        simp only [Bool.or_eq_true, decide_eq_true_eq]
        omega)]
      exact h1
theorem run_mapM_list {α β : Type} (g : α → Sem β) (g' : α → β) : ∀ (l : List α), (∀ x ∈ l, (g x).run P w = .ok (g' x) w) → (l.mapM g).run P w = .ok (l.map g') w
  | [], _ => by simp
  | x :: l, h => by
    have h1 := h x (by simp)
    have h2 := run_mapM_list g g' l fun y hy => h y (by simp [hy])
    simp [h1, h2]
theorem run_mapM_array {α β : Type} (g : α → Sem β) (g' : α → β) (xs : Array α) (h : ∀ x ∈ xs.toList, (g x).run P w = .ok (g' x) w) : (xs.mapM g).run P w = .ok (xs.map g') w := by
  rw [Array.mapM_eq_mapM_toList, Sem.run_map, run_mapM_list g g' xs.toList h]
  simp only [Result.andThen_ok]
  congr 1
  apply Array.ext'
  simp
theorem ok_build {dst t ps ty pos after guard} : OpOk P φ ⟨dst, .build t ps, ty, pos, after, guard⟩ (opP P ⟨dst, .build t ps, ty, pos, after, guard⟩) := by
  intro E σ a w L σ' L' ⟨G, hG, hp⟩ hrun K Q hK
  simp only [opP] at hrun
  split at hrun
  case h_2 => exact (run_fail hrun).elim
  rename_i fs hu
  cases hb : (fs.toList.all (fun f => okTy P f.type) && ((zeroRow P t).1 && !Nat.beq (zeroRow P t).2.length 0)) with
  | false => rw [hb] at hrun; exact (run_fail (φ := φ) (α := Unit) hrun).elim
  | true =>
    rw [hb] at hrun
    simp only [Bool.and_eq_true, Bool.not_eq_true'] at hb
    obtain ⟨hok, hag, hl0⟩ := hb
    have hne : (zeroRow P t).2 ≠ [] := fun e => by rw [e] at hl0; simp [beqT] at hl0
    obtain ⟨rs, σ1, L1, h1, h2⟩ := run_bind (φ := φ) (p := takeParts ps.toList) hrun
    obtain ⟨G1, hG1, hl, hrs, _, _⟩ := takeParts_sound ps.toList 1 σ G hG (fun y _ => hp y) h1
    split at h2
    case h_2 => exact (run_fail h2).elim
    rename_i cs' hcs'
    obtain ⟨z, hzr, hz⟩ := zeroRow_some (P := P) (w := w) hne
    have hrel := (hz E G1 σ1.V).cells hne
    obtain ⟨zs', z', γ', hf, hr, hγ⟩ := build_sound (P := P) hG1 hu (fun i => (fs.map fun f => (f.offset, szOf P f.type))[i]?) (fun i f hf => by simp [hf]) rs (ps.toList.map fun x => (x.1, a.eval x.2)) 1 (fun _ => noG) (zeroRow P t).2 z.cells cs' hrel
      ⟨fun K q y h => by simp [noG] at h, fun K q K' q' ad c ad' c' h => by simp [noG] at h⟩ (by simp [hl]) (fun i idx row hi => by
        obtain ⟨x, hx, hr⟩ := hrs i idx row hi
        exact ⟨a.eval x, by simp only [List.getElem?_map, hx, Option.map_some], hr⟩) hcs'
    have hR := hG1.refly (fun p => match p with | 0 :: K :: q => γ' K q | _ => none) (fun p ad c hh => by
      split at hh
      · obtain ⟨z1, k1, _, hg⟩ := hγ.src _ _ _ hh
        exact .inl ⟨z1, _, c, hg⟩
      · simp at hh) (fun p p' ad c ad' c' hh hh' hbb => by
      split at hh
      · split at hh'
        · obtain ⟨rfl, rfl⟩ := hγ.inj _ _ _ _ _ _ _ _ hh hh' hbb
          rfl
        · simp at hh'
      · simp at hh)
    refine wp_value (v := .agg zs') (w' := w) ?_ (hK _ _ (put_sound hR 0 (rows := [(true, cs')]) ?_ h2))
    · have hm := run_mapM_array (P := P) (w := w) (fun f : Field => (do pure (f.offset, ← sizeOf f.type) : Sem (Nat × Nat))) (fun f => (f.offset, szOf P f.type)) fs (fun f hf => by
        have := List.all_eq_true.1 hok f hf
        obtain ⟨d, i, _, hi, hs⟩ := okTy_some this
        simp [run_sizeOf hi, hs])
      simp only [execOp, Instr.build, Sem.run_bind, hzr, Result.andThen_ok, run_underlying hu, hm, Array.toList_map, hf, Sem.run_pure]
    · rw [flyG_0]
      exact ⟨zs', rfl, hr.good (good_fly _ _ _)⟩
end
end Go.Mach
