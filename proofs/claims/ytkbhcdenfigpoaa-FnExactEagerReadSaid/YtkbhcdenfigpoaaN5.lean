/- Every call of a function value is sound. Conditions: none (lemmas). -/
import Derived.Test.YtkbhcdenfigpoaaN4
set_option linter.all false
namespace Go.Mach
section
variable {P : Program} {φ : Sems} {a : Act} {w : World}
theorem RelRow.same {E G V w g E' G' V' w' g' ag l l2 u} (h : RelRow E G V w g (ag, l) u) (h' : RelRow E' G' V' w' g' (ag, l2) u) (hl : l2.length = l.length) (hne : l ≠ []) : ∃ vs, RelCs E G V w g l vs ∧ RelCs E' G' V' w' g' l2 vs := by
  cases ag with
  | true =>
    obtain ⟨vs, e, hc⟩ := h
    obtain ⟨vs', e', hc'⟩ := h'
    rw [e] at e'
    cases e'
    exact ⟨vs, hc, hc'⟩
  | false => match l, l2, hl, h, h' with
    | [], _, _, _, _ => exact absurd rfl hne
    | [c], [c'], _, h, h' =>
      refine ⟨#[u], ⟨rfl, fun k c1 hk => ?_⟩, ⟨rfl, fun k c1 hk => ?_⟩⟩
      · cases k with
        | zero => simp at hk; subst hk; exact ⟨u, rfl, h⟩
        | succ k => simp at hk
      · cases k with
        | zero => simp at hk; subst hk; exact ⟨u, rfl, h'⟩
        | succ k => simp at hk
theorem hdr_eq {w w' : World} {m n m' n' : Nat} {f f' : Nat → Nat → T} {g g' : Gh} {v : Value} (h : RelOwn w (.arr m n f) g v) (h' : RelOwn w' (.arr m' n' f') g' v) : g' [] = g [] := by
  rcases h with ⟨h1, _, rfl⟩ | ⟨b, off, cap, cs, e, h1, rfl, _⟩ <;> rcases h' with ⟨k1, _, k2⟩ | ⟨b', off', cap', cs', e', k1, k2, _⟩
  · exact k1.trans h1.symm
  · cases k2
  · cases k2
  · cases k2
    exact k1.trans h1.symm
def rowHdr (G : GG) (l : List C) : Gh
  | [0, k] => match l[k]? with
    | some (.ref r _ q _ _ _) => G r q
    | _ => none
  | _ => none
theorem rowHdr_some {G : GG} {l : List C} {p y} (h : rowHdr G l p = some y) : ∃ k r ver q m s n, p = [0, k] ∧ l[k]? = some (.ref r ver q m s n) ∧ G r q = some y := by
  unfold rowHdr at h
  split at h
  · rename_i k
    split at h
    · rename_i r ver q m s n hk
      exact ⟨k, r, ver, q, m, s, n, rfl, hk, h⟩
    · cases h
  · cases h
theorem rowHdr_deep {G : GG} {l : List C} {k : Nat} {q : Path} (hq : q ≠ []) : rowHdr G l (0 :: k :: q) = none := by
  cases q with
  | nil => exact absurd rfl hq
  | cons x q => rfl
def onlyAt (i : Nat) (g : Gh) : Nat → Gh := fun j => if j = i then g else noG
theorem onlyAt_some {i : Nat} {g : Gh} {j p y} (h : onlyAt i g j p = some y) : j = i ∧ g p = some y := by
  unfold onlyAt at h
  split at h
  · exact ⟨‹_›, h⟩
  · simp [noG] at h
theorem argG_other {G : GG} {i : Nat} {g : Gh} {j : Nat} (h : j ≠ i) : argG G (onlyAt i g) j = G (park (j + 1)) := by
  funext p
  simp [argG, onlyAt, h, noG]
theorem argG_self {G : GG} {i : Nat} {g : Gh} {p} : argG G (onlyAt i g) i p = (g p).or (G (park (i + 1)) p) := by
  simp only [argG, onlyAt, if_true]
  cases g p <;> rfl
theorem ok_call (hφ : SemsOk P φ) {dst f args at_ ty pos after guard} : OpOk P φ ⟨dst, .call ⟨.value f, args, at_⟩, ty, pos, after, guard⟩ (opP P ⟨dst, .call ⟨.value f, args, at_⟩, ty, pos, after, guard⟩) := by
  intro E σ a w L σ' L' ⟨G, hG, hp⟩ hrun K Q hK
  obtain ⟨cf, σ1, L1, h1, h2⟩ := run_bind (φ := φ) (p := peek1 f) hrun
  obtain ⟨rfl, hcf⟩ := peek1_sound hG h1
  unfold callP at h2
  split at h2
  case h_2 => exact (run_fail h2).elim
  rename_i g caps
  have h2' : ((takesP (φ.md g) args.toList).bind fun ts => match lentAt 0 (φ.md g) args.toList with
    | [] => goP dst g caps (φ.md g) args.toList ts (false, []) fun _ => .ret ()
    | [(i, t, x)] => (lendP t x).bind fun hl => goP dst g caps (φ.md g) args.toList ts hl.2 fun outs => giveP t hl.1 (outs.getD i (false, []))
    | _ => .fail).run φ σ1 L1 = some ((), σ', L') := h2
  clear h2
  generalize hmd : φ.md g = md at h2'
  obtain ⟨ts, σ2, L2, h3, h4⟩ := run_bind h2'
  obtain ⟨G1, hG1, hlen, hgood1, hlow, _, hts⟩ := takesP_sound φ args.toList md 0 σ1 G hG (fun z _ => hp z) h3
  have hcf1 := hcf.good hgood1
  have hlent := lentAt_spec args.toList md 0
  have hget : ∀ (j : Nat) x, args.toList[j]? = some x → ∃ row, ts[j]? = some row := fun j x hj => by
    have : j < ts.length := by rw [hlen]; exact (List.getElem?_eq_some_iff.1 hj).1
    exact ⟨_, List.getElem?_eq_getElem this⟩
  split at h4
  · rename_i hnone
    have hh : Hdr σ2 G1 fun _ => noG := ⟨(fun i p ad c e => by cases e), (fun i p i' p' ad c ad' c' e => by cases e)⟩
    have hag : ∀ j, argG G1 (fun _ => noG) j = G1 (park (j + 1)) := fun j => funext fun p => rfl
    refine goP_sound hφ hG1 hh hcf1 hlen (fun j x row hj hrow hm => ?_) (fun j x hj hm => ?_) h4 (fun outs v δ w' rows vals rs σ3 L3 L4 hg hr _ hk => ?_) hK
    · rw [hag]
      have := (hts j x row hj hrow).1 hm
      rw [Nat.zero_add] at this
      exact this
    · have := hlent.2 j x hj hm
      rw [hnone] at this
      cases this
    · have := run_ret (φ := φ) hk
      simp only [Prod.mk.injEq, true_and] at this
      obtain ⟨rfl, rfl⟩ := this
      exact ⟨_, hG1.called hh 0 (fun i p y e => by cases e) hg hr (fun p ad c e => by cases e), resG_0⟩
  · rename_i i t x hone
    obtain ⟨j0, hj0, hxi, hti, ht12⟩ := hlent.1 (i, t, x) (by rw [hone]; exact List.mem_singleton.2 rfl)
    simp only [Nat.zero_add] at hj0
    subst hj0
    have honly : ∀ (j : Nat) y, args.toList[j]? = some y → md.getD j 0 = 1 ∨ md.getD j 0 = 2 → j = i := fun j y hj hm => by
      have := hlent.2 j y hj hm
      rw [hone, List.mem_singleton] at this
      simp only [Prod.mk.injEq] at this
      omega
    obtain ⟨rowt, hrowt⟩ := hget i x hxi
    have hpi : G1 (park (i + 1)) = noG := by
      have := (hts i x rowt hxi hrowt).2 (by rw [hti]; omega)
      rw [Nat.zero_add] at this
      exact this
    obtain ⟨hl, σ3, L3, h5, h6⟩ := run_bind h4
    rcases ht12 with rfl | rfl
    · -- a row is lent
      have h5' : ((peekRow x).bind fun row => guardP (!row.2.isEmpty && pairsOk (row.2.flatMap locOf)) ((mapP lendC row.2).bind fun cs => .ret (row, (row.1, cs)))).run φ σ2 L2 = some (hl, σ3, L3) := h5
      obtain ⟨row, σ4, L4, h7, h8⟩ := run_bind h5'
      obtain ⟨rfl, hrow⟩ := peekRow_sound hG1 h7
      obtain ⟨hpo, h9⟩ := run_guard h8
      obtain ⟨cs, σ5, L5, h10, h11⟩ := run_bind h9
      have := run_ret h11
      simp only [Prod.mk.injEq] at this
      obtain ⟨rfl, rfl, rfl⟩ := this
      obtain ⟨ag, l⟩ := row
      simp only at hpo h10 hrow h6
      simp only [Bool.and_eq_true, Bool.not_eq_true', List.isEmpty_eq_false_iff] at hpo
      obtain ⟨hne, hpo⟩ := hpo
      obtain ⟨vs, hc0, back⟩ := hrow.cs hne
      have hcells := hc0.2
      obtain ⟨G2, hG2, hl2, hgood2, hpk2, hcs2, _, hdis, _⟩ := lendCells_sound φ (i + 1) vs l 0 σ4 G1 hG1 (fun j c hj => by rw [Nat.zero_add]; exact hcells j c hj) (fun k _ q => by rw [hpi]; rfl) hpo h10
      simp only [Nat.zero_add] at hcs2
      have hat : ∀ (j : Nat) c, l[j]? = some c → ∃ u t, cs[j]? = some (.tr true t) ∧ vs[j]? = some u ∧ RelOwn w t (cellG G2 (i + 1) j c) u ∧ G2 (park (i + 1)) [0, j] = none ∧ ∀ r ver p m s n, c = .ref r ver p m s n → notPark r ∧ p ≠ [] ∧ rowsAt (σ3.get r).rows p = some (.lent m n) ∧ ∃ f, t = .arr m n f := fun j c hj => by
        have hlt : j < cs.length := by rw [hl2]; exact (List.getElem?_eq_some_iff.1 hj).1
        obtain ⟨u, t, c0, k1, k2, k3, k4, k5, k6⟩ := hcs2 j _ (List.getElem?_eq_getElem hlt)
        rw [hj] at k1
        obtain rfl := Option.some.inj k1
        exact ⟨u, t, by rw [List.getElem?_eq_getElem hlt, k3], k2, k4, k5, k6⟩
      have hh : Hdr σ3 G2 (onlyAt i (rowHdr G2 l)) := by
        refine ⟨fun i' p ad c e => ?_, fun i1 p1 i2 p2 ad c ad' c' e1 e2 hb => ?_⟩
        · obtain ⟨_, e'⟩ := onlyAt_some e
          obtain ⟨k, r, ver, q, m, s, n, rfl, hk, hg⟩ := rowHdr_some e'
          obtain ⟨u, t, _, _, _, _, hh⟩ := hat k _ hk
          obtain ⟨hnp, hqne, hlat, _⟩ := hh _ _ _ _ _ _ rfl
          exact ⟨r, q, hnp, hg, fun m' n' f' h' => (by rw [hlat] at h'; cases h'), fun t' _ e' => absurd e' hqne⟩
        · obtain ⟨x1, y1⟩ := onlyAt_some e1
          obtain ⟨x2, y2⟩ := onlyAt_some e2
          obtain ⟨k, r, ver, q, m, s, n, rfl, hk, hg⟩ := rowHdr_some y1
          obtain ⟨k', r', ver', q', m', s', n', rfl, hk', hg'⟩ := rowHdr_some y2
          obtain ⟨rfl, rfl⟩ := hG2.inj _ _ _ _ _ _ _ _ hg hg' hb
          rw [hdis k k' _ _ _ _ _ _ _ _ _ _ hk hk', x1, x2]
          exact ⟨rfl, rfl⟩
      have hcell : ∀ (j : Nat) c, l[j]? = some c → (fun q => argG G2 (onlyAt i (rowHdr G2 l)) i (0 :: j :: q)) = cellG G2 (i + 1) j c := fun j c hj => by
        obtain ⟨u, t, _, _, _, hnone, _⟩ := hat j c hj
        funext q
        rw [argG_self]
        unfold cellG
        split
        · rename_i e
          subst e
          rw [hnone, Option.or_none]
          unfold rowHdr
          simp only [hj]
          cases c <;> rfl
        · rename_i e
          rw [rowHdr_deep e]
          rfl
      have hargs : ∀ E' G' V', RelRow E' G' V' w (fun k q => argG G2 (onlyAt i (rowHdr G2 l)) i (0 :: k :: q)) (ag, cs) (a.eval x) := fun E' G' V' => by
        refine back _ _ _ _ _ _ hl2 ⟨by rw [hl2]; exact hc0.1, fun k c hk => ?_⟩
        obtain ⟨u, t, c0, k1, k2, k3, k4, _⟩ := hcs2 k c hk
        subst k3
        refine ⟨u, k2, ?_⟩
        show RelOwn w t (fun q => argG G2 (onlyAt i (rowHdr G2 l)) i (0 :: k :: q)) u
        rw [hcell k c0 k1]
        exact k4
      refine goP_sound hφ hG2 hh (hcf1.good hgood2) hlen (fun j y row' hj hrow' hm => ?_) (fun j y hj hm => ?_) h6 (fun outs v δ w' rows vals rs σ6 L6 L7 hg hr hrows hk => ?_) hK
      · have hne : j ≠ i := by
          rintro rfl
          rw [hti] at hm
          cases hm
        rw [argG_other hne]
        have := (hts j y row' hj hrow').1 hm
        rw [Nat.zero_add] at this
        have e : G2 (park (j + 1)) = G1 (park (j + 1)) := funext fun q => hpk2 _ _ fun e => hne (by have := e.1; omega)
        rw [e]
        exact this
      · obtain rfl := honly j y hj hm
        rw [hxi] at hj
        obtain rfl := Option.some.inj hj
        rw [hti]
        unfold ArgOk
        rw [if_pos (.inl rfl)]
        refine ⟨fun k c hk => ?_, hargs⟩
        obtain ⟨u, t, c0, _, _, k3, _⟩ := hcs2 k c hk
        exact ⟨t, k3⟩
      · have hk' : ((guardP (ag == (outs.getD i (false, [])).1) (giveCs l (outs.getD i (false, [])).2)).run φ σ3 L6) = some ((), σ6, L7) := hk
        obtain ⟨k1, k2⟩ := hrows i x hxi (.inl hti)
        rw [hti] at k1
        obtain ⟨o, u, k3, k4, k5⟩ := hr.out i _ k1
        rw [k2] at k4
        obtain rfl := Option.some.inj k4
        have ho : outs.getD i (false, []) = o := by rw [List.getD_eq_getElem?_getD, k3]; rfl
        rw [ho] at hk'
        unfold OutOk at k5
        rw [if_pos rfl] at k5
        obtain ⟨hown, hrel⟩ := k5
        obtain ⟨hag, hk2⟩ := run_guard hk'
        obtain ⟨oag, ol⟩ := o
        have hag : ag = oag := by simpa using hag
        subst hag
        obtain ⟨hol, hshape⟩ := giveCs_shape (E := E) φ l ol σ3 hk2
        have hcsne : cs ≠ [] := fun e => by rw [e] at hl2; exact hne (List.eq_nil_of_length_eq_zero hl2.symm)
        obtain ⟨vs', hc1, hc2⟩ := RelRow.same (hargs E gg0 vv0) (hrel E gg0 vv0) (hol.trans hl2.symm) hcsne
        have hboth : ∀ (k : Nat) r ver q m s n, l[k]? = some (.ref r ver q m s n) → ∃ f f' u', notPark r ∧ rowsAt (σ3.get r).rows q = some (.lent m n) ∧ ol[k]? = some (.tr true (.arr m n f')) ∧ RelOwn w' (.arr m n f') (fun q => δ (i + 1) (0 :: k :: q)) u' ∧ RelOwn w (.arr m n f) (cellG G2 (i + 1) k (.ref r ver q m s n)) u' := fun k r ver q m s n hk => by
          obtain ⟨u, t, h12, h13, h14, h15, h16⟩ := hat k _ hk
          obtain ⟨hnp, hqne, hlat, f, rfl⟩ := h16 _ _ _ _ _ _ rfl
          obtain ⟨f', hf'⟩ := hshape k _ _ _ _ _ _ hk
          obtain ⟨u1, g1, g2⟩ := hc1.2 k _ h12
          obtain ⟨u2, g3, g4⟩ := hc2.2 k _ hf'
          rw [g1] at g3
          obtain rfl := Option.some.inj g3
          have g5 : RelOwn w (.arr m n f) (fun q => argG G2 (onlyAt i (rowHdr G2 l)) i (0 :: k :: q)) u1 := g2
          rw [hcell k _ hk] at g5
          exact ⟨f, f', u1, hnp, hlat, hf', g4, g5⟩
        have hheq : ∀ (k : Nat) r ver q m s n, l[k]? = some (.ref r ver q m s n) → δ (i + 1) [0, k] = G2 r q := fun k r ver q m s n hk => by
          obtain ⟨f, f', u', _, _, _, g1, g2⟩ := hboth k r ver q m s n hk
          exact (hdr_eq g2 g1).trans (by simp [cellG])
        have hcalled := hG2.called hh i (fun i' p y e => (onlyAt_some e).1) hg hr (fun p ad c e => by
          obtain ⟨_, e'⟩ := onlyAt_some e
          obtain ⟨k, r, ver, q, m, s, n, rfl, hk, hgg⟩ := rowHdr_some e'
          rw [hheq k _ _ _ _ _ _ hk]
          exact hgg)
        obtain ⟨G', hG', _, hpk'⟩ := giveCs_sound φ (i + 1) l ol 0 σ3 _ hcalled hpo (fun j r ver q m s n hj => by
          obtain ⟨f, f', u', hnp, hlat, h12, g1, g2⟩ := hboth j r ver q m s n hj
          refine ⟨hnp, hlat, f', u', h12, ?_⟩
          have : cellG (resG G2 (onlyAt i (rowHdr G2 l)) δ i) (i + 1) (0 + j) (.ref r ver q m s n) = fun q => δ (i + 1) (0 :: j :: q) := by
            funext q'
            rw [Nat.zero_add]
            unfold cellG
            split
            · rename_i e
              subst e
              rw [hheq j _ _ _ _ _ _ hj]
              exact congrFun (resG_np hnp) q
            · rename_i e
              rw [resG_i]
              simp only [onlyAt, if_true, rowHdr_deep e]
              rfl
          rw [this]
          exact g1) hdis hk2
        exact ⟨G', hG', by rw [hpk' 0 (by omega)]; exact resG_0⟩
    · -- a variable is lent
      have h5' : ((peek1 x).bind fun c => (lendB c).bind fun row => .ret ((false, [c]), row)).run φ σ2 L2 = some (hl, σ3, L3) := h5
      obtain ⟨c, σ4, L4, h7, h8⟩ := run_bind h5'
      obtain ⟨rfl, hc⟩ := peek1_sound hG1 h7
      obtain ⟨row, σ5, L5, h9, h10⟩ := run_bind h8
      obtain ⟨t0, ver, m, b, vs, e, rfl, rfl, hhas, hG2, hgood2, hm, hv, hgb, hwb, hall, hrow⟩ := lendB_sound hG1 φ (i + 1) hc h9
      have := run_ret h10
      simp only [Prod.mk.injEq] at this
      obtain ⟨rfl, rfl, rfl⟩ := this
      simp only at h6
      have hnp := np_box t0
      have hb2 : ldG G1 (box t0) [] (park (i + 1)) [] (box t0) [] = some (⟨b, 0, none⟩, 1) := by
        rw [ldG_out (fun e => np_ne_park hnp (i + 1) e.1) (fun e => e.2.2 rfl)]
        exact hgb
      have hsub : ∀ k q, ldG G1 (box t0) [] (park (i + 1)) [] (park (i + 1)) (0 :: k :: q) = G1 (box t0) (0 :: k :: q) := fun k q => ldG_in G1 (box t0) [] (park (i + 1)) [] (q := 0 :: k :: q) (by simp)
      generalize hGe : ldG G1 (box t0) [] (park (i + 1)) [] = G2 at *
      let hd : Gh := fun p => if p = [] then some (⟨b, 0, none⟩, 1) else none
      have hd0 : ∀ p y, hd p = some y → p = [] ∧ y = (⟨b, 0, none⟩, 1) := fun p y e => by
        simp only [hd] at e
        split at e
        · exact ⟨‹_›, (Option.some.inj e).symm⟩
        · cases e
      have hrows0 : ((σ4.set (box t0) ⟨bumpD [] (σ4.get (box t0)).ver, []⟩).get (box t0)).rows = [] := by rw [get_set, if_pos ⟨rfl, hhas⟩]
      have hh : Hdr (σ4.set (box t0) ⟨bumpD [] (σ4.get (box t0)).ver, []⟩) G2 (onlyAt i hd) := by
        refine ⟨fun i' p ad c' e => ?_, fun i1 p1 i2 p2 ad c' ad' c'' e1 e2 hbb => ?_⟩
        · obtain ⟨_, e'⟩ := onlyAt_some e
          obtain ⟨_, e2⟩ := hd0 _ _ e'
          cases e2
          exact ⟨box t0, [], hnp, hb2, fun m' n' f' h' => by simp [rowsAt] at h', fun t' e3 _ => hrows0⟩
        · obtain ⟨x1, y1⟩ := onlyAt_some e1
          obtain ⟨x2, y2⟩ := onlyAt_some e2
          exact ⟨x1.trans x2.symm, (hd0 _ _ y1).1.trans (hd0 _ _ y2).1.symm⟩
      have hag0 : argG G2 (onlyAt i hd) i [] = some (⟨b, 0, none⟩, 1) := by
        rw [argG_self]
        simp [hd]
      have hags : ∀ k q, argG G2 (onlyAt i hd) i (0 :: k :: q) = G1 (box t0) (0 :: k :: q) := fun k q => by
        rw [argG_self, ← hsub]
        simp [hd]
      refine goP_sound hφ hG2 hh (hcf1.good hgood2) hlen (fun j y row' hj hrow' hm' => ?_) (fun j y hj hm' => ?_) h6 (fun outs v δ w' rows vals rs σ6 L6 L7 hg hr hrows hk => ?_) hK
      · have hne : j ≠ i := by
          rintro rfl
          rw [hti] at hm'
          cases hm'
        rw [argG_other hne]
        have := (hts j y row' hj hrow').1 hm'
        rw [Nat.zero_add] at this
        have e : G2 (park (j + 1)) = G1 (park (j + 1)) := by
          rw [← hGe]
          exact funext fun q => ldG_out (fun e => hne (by have := park_inj e.1; omega)) (fun e => np_ne_park hnp (j + 1) e.1.symm)
        rw [e]
        exact this
      · obtain rfl := honly j y hj hm'
        rw [hxi] at hj
        obtain rfl := Option.some.inj hj
        rw [hti]
        unfold ArgOk
        rw [if_neg (by simp), if_pos rfl]
        refine ⟨hall, b, vs, e, hv, hag0, hwb, fun E' G' V' => ?_⟩
        have : (fun (k : Nat) (q : Path) => argG G2 (onlyAt j hd) j (0 :: k :: q)) = fun k q => G1 (box t0) (0 :: k :: q) := by
          funext k q
          exact hags k q
        rw [this]
        exact hrow E' G' V'
      · obtain ⟨k1, k2⟩ := hrows i x hxi (.inr hti)
        rw [hti] at k1
        obtain ⟨o, u, k3, k4, k5⟩ := hr.out i _ k1
        rw [k2] at k4
        obtain rfl := Option.some.inj k4
        have ho : outs.getD i (false, []) = o := by rw [List.getD_eq_getElem?_getD, k3]; rfl
        rw [ho] at hk
        unfold OutOk at k5
        rw [if_neg (by simp), if_pos rfl] at k5
        obtain ⟨_, b', vs', e', hv', hδ, hw', hcs'⟩ := k5
        rw [hv] at hv'
        simp only [Value.pointer.injEq, Option.some.injEq, Addr.mk.injEq, and_true] at hv'
        subst hv'
        have hcalled := hG2.called hh i (fun i' p y e => (onlyAt_some e).1) hg hr (fun p ad c e => by
          obtain ⟨_, e'⟩ := onlyAt_some e
          obtain ⟨rfl, e2⟩ := hd0 _ _ e'
          cases e2
          exact hδ)
        have hk' : (giveB (.pt (.ptr (box t0) ver [] m 0 0)) o).run φ (σ4.set (box t0) ⟨bumpD [] (σ4.get (box t0)).ver, []⟩) L6 = some ((), σ6, L7) := hk
        obtain ⟨G', hG', hpk'⟩ := giveB_sound (vs := vs') (e := e') hcalled φ (i + 1) (by rw [resG_np hnp]; exact hb2) hw' (fun E' G' V' => by
          have : (fun (k : Nat) (q : Path) => resG G2 (onlyAt i hd) δ i (park (i + 1)) (0 :: k :: q)) = fun k q => δ (i + 1) (0 :: k :: q) := by
            funext k q
            rw [resG_i]
            simp [onlyAt, hd]
          rw [this]
          exact hcs' E' G' V') hk'
        exact ⟨G', hG', by rw [hpk' 0 (by omega)]; exact resG_0⟩
  · exact (run_fail h4).elim
end
end Go.Mach
