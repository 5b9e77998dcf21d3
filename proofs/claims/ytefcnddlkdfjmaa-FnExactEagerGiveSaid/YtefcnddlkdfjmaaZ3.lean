/- Lemmas and definitions of the proof (Ro Ga Fc Ha Hk Ia Cn Co Ra Rb Rc Rd Rj Vc Vd Va Vb Vf Ea Eb Da Db). Conditions: none. -/
import Derived.WalkKit
import Derived.ProofKit
import Derived.OpenShut
import Derived.ShutString
import Derived.ChangeOld
import Derived.Below
import Derived.SizedLaws
import Derived.Test.YtefcnddlkdfjmaaZ2
set_option linter.all false
namespace Go.Mach
open Go
inductive Sh where
  | int (k : IntKind)
  | bool
  | arr (ss : List Sh)
def shFs (P : Program) (sub : TypeId → Option (List Sh)) : Nat → List Field → Option (List Sh)
  | _, [] => some []
  | o, f :: l => bif Nat.beq f.offset o then match sub f.type with
    | some a => bif Nat.beq a.length (P.cellsOf f.type) then match shFs P sub (o + a.length) l with
      | some r => some (a ++ r)
      | none => none
      else none
    | none => none
    else none
/-- The shapes of a type's cells. -/
def shOf (P : Program) : Nat → TypeId → Option (List Sh)
  | 0, _ => none
  | n + 1, t => match P.underlying t with
    | some .bool => some [.bool]
    | some (.int k) => some [.int k]
    | some (.slice e) => match shOf P n e with
      | some l => bif Nat.beq l.length (P.cellsOf e) && Nat.blt 0 (P.bytesOf e) && Nat.blt 0 l.length then some [.arr l] else none
      | none => none
    | some (.struct fs) => match shFs P (shOf P n) 0 fs.toList with
      | some l => bif Nat.beq l.length (P.cellsOf t) then some l else none
      | none => none
    | _ => none
/-- A tree has a shape. -/
def ShT : T → Sh → Prop
  | .int k n, s => s = .int k ∧ (Lit.int k n).wf = true
  | .bool _, s => s = .bool
  | .arr m n f, s => ∃ ss, s = .arr ss ∧ m = ss.length ∧ n ≤ F.ZM ∧ (∀ j, j < n → ∀ k s', ss[k]? = some s' → ShT (f j k) s') ∧ ∀ j k, (n ≤ j ∨ m ≤ k) → f j k = .hole
  | _, _ => False
def Cl (w : World) (N : Nat → Prop) (ts : List T) (ss : List Sh) (cs : List Value) : Prop :=
  ts.length = ss.length ∧ cs.length = ss.length ∧ ∀ (k : Nat) s, ss[k]? = some s → ∃ t v, ts[k]? = some t ∧ cs[k]? = some v ∧ ShT t s ∧ RelIm w N t v
theorem Cl.nil {w N} : Cl w N [] [] [] := ⟨rfl, rfl, fun k s h => by simp at h⟩
theorem Cl.one {w N t s v} (h : ShT t s) (h' : RelIm w N t v) : Cl w N [t] [s] [v] := ⟨rfl, rfl, fun k s' hk => by
  cases k with
  | zero => simp at hk; subst hk; exact ⟨t, v, rfl, rfl, h, h'⟩
  | succ k => simp at hk⟩
theorem Cl.append {w N ts ss cs ts' ss' cs'} (h : Cl w N ts ss cs) (h' : Cl w N ts' ss' cs') : Cl w N (ts ++ ts') (ss ++ ss') (cs ++ cs') := by
  refine ⟨by simp [h.1, h'.1], by simp [h.2.1, h'.2.1], fun k s hk => ?_⟩
  by_cases hl : k < ss.length
  · rw [List.getElem?_append_left hl] at hk
    rw [List.getElem?_append_left (by rw [h.1]; exact hl), List.getElem?_append_left (by rw [h.2.1]; exact hl)]
    exact h.2.2 k s hk
  · rw [List.getElem?_append_right (by omega)] at hk
    rw [List.getElem?_append_right (by rw [h.1]; omega), List.getElem?_append_right (by rw [h.2.1]; omega), h.1, h.2.1]
    exact h'.2.2 _ s hk
section
variable {H : Type} {enc : TypeId × Value → H} {P : Program} {w : World} {base : Nat} {spare : Nat → Bool} {held : Bool} {N : Nat → Prop}
/-- What is needed of a told value. -/
def Fit (P : Program) (N : Nat → Prop) (t : TypeId) (x : DataW H × List MemPlace) : Prop := (∀ p ∈ x.2, N p.block) ∧ ∀ m ∈ x.1.weights P t, m ≤ reachBytes
theorem weightsAll_mem {e : TypeId} : ∀ {ds : List (DataW H)} {j : Nat} {d : DataW H}, ds[j]? = some d → ∀ n ∈ d.weights P e, n ∈ DataW.weightsAll P e ds
  | d0 :: ds, 0, d, hd, n, hn => by
    simp only [List.getElem?_cons_zero, Option.some.injEq] at hd
    subst hd
    simp only [DataW.weightsAll, List.mem_append]
    exact .inl hn
  | d0 :: ds, j + 1, d, hd, n, hn => by
    simp only [List.getElem?_cons_succ] at hd
    simp only [DataW.weightsAll, List.mem_append]
    exact .inr (weightsAll_mem hd n hn)
  | [], _, _, hd, _, _ => by simp at hd
theorem reach_zm {n b : Nat} (h : n * b ≤ reachBytes) (hb : 0 < b) : n ≤ F.ZM := by
  have := reachBytes_lt
  have hz := F.zm
  have : n * 1 ≤ n * b := Nat.mul_le_mul_left n hb
  omega
theorem open_fs {sub : TypeId → Option (List Sh)} {tr : TypeId → List Value → Option (DataW H × List MemPlace)}
    (hsub : ∀ t ss cs x, sub t = some ss → tr t cs = some x → Fit P N t x → ∃ ts, Cl w N ts ss cs) (cs : List Value) :
    ∀ (fs : List Field) (o : Nat) (ss : List Sh), shFs P sub o fs = some ss → (∀ (i : Nat) (f : Field), fs[i]? = some f → ∃ x, tr f.type ((cs.drop f.offset).take (P.cellsOf f.type)) = some x ∧ Fit P N f.type x) →
      ∃ ts, Cl w N ts ss ((cs.drop o).take ss.length)
  | [], o, ss, h, _ => by
    simp only [shFs, Option.some.injEq] at h
    subst h
    exact ⟨[], by simpa using Cl.nil⟩
  | f :: fs, o, ss, h, hx => by
    unfold shFs at h
    cases ho : Nat.beq f.offset o with
    | false => simp [ho] at h
    | true =>
      simp only [ho, cond_true] at h
      cases ha : sub f.type with
      | none => simp [ha] at h
      | some a =>
        simp only [ha] at h
        cases hl : Nat.beq a.length (P.cellsOf f.type) with
        | false => simp [hl] at h
        | true =>
          simp only [hl, cond_true] at h
          cases hr : shFs P sub (o + a.length) fs with
          | none => simp [hr] at h
          | some r =>
            simp only [hr, Option.some.injEq] at h
            subst h
            obtain ⟨x, hx0, hf⟩ := hx 0 f rfl
            obtain ⟨ts, hts⟩ := hsub f.type a _ x ha hx0 hf
            obtain ⟨tr', htr⟩ := open_fs hsub cs fs (o + a.length) r hr fun i f' hi => hx (i + 1) f' (by simpa using hi)
            have e1 := Nat.eq_of_beq_eq_true ho
            have e2 := Nat.eq_of_beq_eq_true hl
            rw [← e2, e1] at hts
            refine ⟨ts ++ tr', ?_⟩
            have := hts.append htr
            rw [List.length_append, List.take_add]
            rw [List.drop_drop]
            exact this
theorem row_mem {a : Addr} {n : Nat} {N : Nat → Prop} (h : ∀ p ∈ MemPlace.row a n, N p.block) (hn : 0 < n) : N a.block :=
  h (.cell a.block (a.off + 0)) (List.mem_map.2 ⟨0, by simp; omega, rfl⟩)
theorem open_im : ∀ (n : Nat) (t : TypeId) (ss : List Sh), shOf P n t = some ss → ∀ (fuel : Nat) (cs : List Value) (x : DataW H × List MemPlace), DataW.trod enc P w base spare held fuel t cs = some x → Fit P N t x → ∃ ts, Cl w N ts ss cs
  | 0, _, _, h, _, _, _, _, _ => by simp [shOf] at h
  | n + 1, t, ss, h, fuel, cs, x, hx, hf => by
    unfold shOf at h
    split at h
    case h_1 hu =>
      simp only [Option.some.injEq] at h
      subst h
      obtain ⟨b, rfl, _⟩ := DataW.trod_bool hu hx
      exact ⟨[.bool b], .one rfl rfl⟩
    case h_2 k hu =>
      simp only [Option.some.injEq] at h
      subst h
      obtain ⟨m, rfl, _, hw⟩ := DataW.trod_int hu hx
      exact ⟨[.int k m], .one ⟨rfl, hw⟩ rfl⟩
    case h_3 e hu =>
      cases hl : shOf P n e with
      | none => simp [hl] at h
      | some l =>
        simp only [hl] at h
        cases hb : (Nat.beq l.length (P.cellsOf e) && Nat.blt 0 (P.bytesOf e) && Nat.blt 0 l.length) with
        | false => simp [hb] at h
        | true =>
          simp only [hb, cond_true, Option.some.injEq] at h
          subst h
          simp only [Bool.and_eq_true, Nat.blt_eq] at hb
          obtain ⟨⟨h1, h2⟩, h3⟩ := hb
          have h1 := Nat.eq_of_beq_eq_true h1
          rcases DataW.trod_slice hu hx with ⟨rfl, rfl⟩ | ⟨a, len, cap, elems, rest, m, rfl, rfl, rfl, hba, hlc, hcap, hel, hat, _, _⟩
          · exact ⟨[.arr l.length 0 fun _ _ => .hole], .one ⟨l, rfl, rfl, Nat.zero_le _, fun j hj => by omega, fun _ _ _ => rfl⟩ ⟨none, 0, rfl, Nat.le_refl _, fun h => by omega⟩⟩
          · obtain ⟨hp, hw⟩ := hf
            dsimp only at hp hw
            simp only [DataW.weights, hu, List.mem_cons, List.mem_append, List.length_map] at hw
            have hlen : len ≤ F.ZM := by
              have := reach_zm (hw _ (.inl rfl)) h2
              omega
            have key : ∀ i, ∃ ts, i < len → ∃ csi, w.cells? base (a.add (i * P.cellsOf e)) (P.cellsOf e) = some csi ∧ Cl w N ts l csi := fun i => by
              by_cases hi : i < len
              · have h4 := hat i hi
                have hxi := List.getElem?_eq_getElem (show i < elems.length by omega)
                rw [hxi] at h4
                obtain ⟨csi, h5, h6⟩ := Option.bind_eq_some_iff.1 h4
                have hfi : Fit P N e elems[i] := by
                  refine ⟨fun p hp' => hp p (List.mem_append_right _ (List.mem_flatMap.2 ⟨elems[i], List.mem_append_left _ (List.getElem_mem _), hp'⟩)), fun m' hm' => hw m' (.inr (.inl ?_))⟩
                  exact weightsAll_mem (j := i) (d := elems[i].1) (by rw [List.getElem?_map, hxi]; rfl) _ hm'
                obtain ⟨ts, hts⟩ := open_im n e l hl m csi _ h6 hfi
                exact ⟨ts, fun _ => ⟨csi, h5, hts⟩⟩
              · exact ⟨[], fun h => absurd h hi⟩
            obtain ⟨g, hg⟩ := Classical.axiomOfChoice key
            refine ⟨[.arr l.length len fun j k => if j < len then (g j).getD k .hole else .hole], .one ⟨l, rfl, rfl, hlen, fun j hj k s' hs => ?_, fun j k hjk => ?_⟩ ⟨some a, cap, rfl, hlc, fun h0 => ?_⟩⟩
            · simp only [hj, if_true]
              obtain ⟨csj, _, hcl⟩ := hg j hj
              obtain ⟨t', v', ht', _, hsh, _⟩ := hcl.2.2 k s' hs
              rw [List.getD_eq_getElem?_getD, ht']
              exact hsh
            · by_cases hj : j < len
              · simp only [hj, if_true]
                obtain ⟨csj, _, hcl⟩ := hg j hj
                rw [List.getD_eq_getElem?_getD, List.getElem?_eq_none (by rw [hcl.1]; omega)]
                rfl
              · simp only [hj, if_false]
            · have hpos : 0 < (elems.length + rest.length) * P.cellsOf e := Nat.mul_pos (by omega) (by omega)
              have hN : N a.block := row_mem (fun p hp' => hp p (List.mem_append_left _ hp')) hpos
              obtain ⟨cs0, hc0, hcl0⟩ := hg 0 h0
              obtain ⟨_, hlen0, hcell0⟩ := World.cells?_some hc0
              have g0 := hcell0 0 (by omega)
              have hsp : a.spot = none := by
                obtain ⟨v0, hv0⟩ : ∃ v0, cs0[0]? = some v0 := ⟨_, List.getElem?_eq_getElem (by omega)⟩
                rw [hv0] at g0
                have := World.cell?_spot g0
                simpa [Addr.add] using this
              obtain ⟨b, off, sp⟩ := a
              dsimp only at hsp
              subst hsp
              refine ⟨b, off, rfl, hN, fun j hj k hk => ?_⟩
              simp only [hj, if_true]
              obtain ⟨csj, hcj, hcl⟩ := hg j hj
              obtain ⟨_, hlenj, hcellj⟩ := World.cells?_some hcj
              obtain ⟨t', v', ht', hv', _, him⟩ := hcl.2.2 k l[k] (List.getElem?_eq_getElem hk)
              have hc := hcellj k (by omega)
              rw [WideShapes.add_plain, WideShapes.add_plain, hv'] at hc
              refine ⟨v', ?_, by rw [List.getD_eq_getElem?_getD, ht']; exact him⟩
              rw [show off + (j * l.length + k) = off + j * P.cellsOf e + k by rw [h1]; omega]
              exact hc
    case h_4 fs hu =>
      cases hl : shFs P (shOf P n) 0 fs.toList with
      | none => simp [hl] at h
      | some l =>
        simp only [hl] at h
        cases hb : Nat.beq l.length (P.cellsOf t) with
        | false => simp [hb] at h
        | true =>
          simp only [hb, cond_true, Option.some.injEq] at h
          subst h
          have hb := Nat.eq_of_beq_eq_true hb
          obtain ⟨xs, m, rfl, rfl, hlen, hxl, hget⟩ := DataW.trod_struct hu hx
          obtain ⟨hp, hw⟩ := hf
          dsimp only at hp hw
          simp only [DataW.weights, hu] at hw
          obtain ⟨ts, hts⟩ := open_fs (P := P) (w := w) (N := N) (sub := shOf P n) (tr := DataW.trod enc P w base spare held m) (fun t' ss' cs' x' h1 h2 h3 => open_im n t' ss' h1 m cs' x' h2 h3) cs fs.toList 0 l hl fun i f hi => by
            have hi' : fs[i]? = some f := by simpa using hi
            have hil : i < fs.size := (Array.getElem?_eq_some_iff.1 hi').1
            have hx' := hget i f hi'
            have hxi := List.getElem?_eq_getElem (show i < xs.length by omega)
            rw [hxi] at hx'
            refine ⟨_, hx', fun p hp' => hp p (List.mem_flatMap.2 ⟨xs[i], List.getElem_mem _, hp'⟩), fun m' hm' => hw m' ?_⟩
            exact DataW.weights_mem_each (j := i) (t := f.type) (d := xs[i].1) (by simp [hi']) (by simp [hxi]) _ hm'
          refine ⟨ts, ?_⟩
          rw [List.drop_zero, hb, ← hlen, List.take_length] at hts
          exact hts
    case h_5 => cases h
end
/-! ### arguments -/
def D0 : Nat → Prop := Dof fun _ => noG
theorem not_D0 (b : Nat) : ¬ D0 b := fun ⟨_, _, _, _, h, _⟩ => by cases h
def ShTs : List T → List Sh → Prop
  | [], [] => True
  | t :: ts, s :: ss => ShT t s ∧ ShTs ts ss
  | _, _ => False
theorem Cl.shts {w N} : ∀ {ts ss cs}, Cl w N ts ss cs → ShTs ts ss
  | [], [], _, _ => trivial
  | [], s :: ss, _, h => by have := h.1; simp at this
  | t :: ts, [], _, h => by have := h.1; simp at this
  | t :: ts, s :: ss, [], h => by have := h.2.1; simp at this
  | t :: ts, s :: ss, c :: cs, h => by
    refine ⟨?_, Cl.shts (w := w) (N := N) (ts := ts) (ss := ss) (cs := cs) ⟨by simpa using h.1, by simpa using h.2.1, fun k s' hk => ?_⟩⟩
    · obtain ⟨t', v', ht, _, hs, _⟩ := h.2.2 0 s rfl
      simp at ht
      subst ht
      exact hs
    · obtain ⟨t', v', ht, hv, hs, hr⟩ := h.2.2 (k + 1) s' (by simpa using hk)
      exact ⟨t', v', by simpa using ht, by simpa using hv, hs, hr⟩
section
variable {H : Type} {enc : TypeId × Value → H} {P : Program} {W : World}
theorem open_row {n : Nat} {t : TypeId} {ss : List Sh} {vs : Array Value} {d : DataW H} {ps : List MemPlace} (hs : shOf P n t = some ss) (h : DataW.Trod enc P W 0 (fun _ => true) true t (.agg vs) d ps) (hlt : ∀ x ∈ ps, x.block < W.heap.size) (hw : ∀ m ∈ d.weights P t, m ≤ reachBytes) :
    ∃ ts, ShTs ts ss ∧ ArgRow W D0 (F.aR ts).2 (.agg vs) := by
  obtain ⟨fuel, hf⟩ := h
  obtain ⟨ts, hts⟩ := open_im (N := fun b => b < W.heap.size) n t ss hs fuel _ (d, ps) hf ⟨hlt, hw⟩
  refine ⟨ts, hts.shts, fun G V => ⟨vs, rfl, ?_, fun k c hk => ?_⟩⟩
  · have h1 := hts.1
    have h2 := hts.2.1
    simp only [Value.cells, Array.length_toList] at h2
    simp only [F.aR, List.length_map]
    omega
  · simp only [F.aR, List.getElem?_map, Option.map_eq_some_iff] at hk
    obtain ⟨t', ht', rfl⟩ := hk
    have hk : k < ss.length := by rw [← hts.1]; exact (List.getElem?_eq_some_iff.1 ht').1
    obtain ⟨t2, v, h1, h2, _, him⟩ := hts.2.2 k ss[k] (List.getElem?_eq_getElem hk)
    rw [ht'] at h1
    cases h1
    simp only [Value.cells, Array.getElem?_toList] at h2
    refine ⟨v, h2, ?_⟩
    have e : (calleeEnv W D0).N = fun b => b < W.heap.size := by
      funext b
      simp only [Env.N, calleeEnv, not_D0, not_false_eq_true, and_true]
    show RelIm W (calleeEnv W D0).N t' v
    rw [e]
    exact him
theorem open_cell {n : Nat} {t : TypeId} {s : Sh} {v : Value} {d : DataW H} {ps : List MemPlace} (hv : v.cells = #[v]) (hs : shOf P n t = some [s]) (h : DataW.Trod enc P W 0 (fun _ => true) true t v d ps) (hlt : ∀ x ∈ ps, x.block < W.heap.size) (hw : ∀ m ∈ d.weights P t, m ≤ reachBytes) :
    ∃ t', ShT t' s ∧ ArgRow W D0 (F.aT t').2 v := by
  obtain ⟨fuel, hf⟩ := h
  rw [hv] at hf
  obtain ⟨ts, hts⟩ := open_im (N := fun b => b < W.heap.size) n t [s] hs fuel _ (d, ps) hf ⟨hlt, hw⟩
  obtain ⟨t', v', h1, h2, h3, him⟩ := hts.2.2 0 s rfl
  simp at h2
  subst h2
  refine ⟨t', h3, fun G V => ?_⟩
  have e : (calleeEnv W D0).N = fun b => b < W.heap.size := by
    funext b
    simp only [Env.N, calleeEnv, not_D0, not_false_eq_true, and_true]
  show RelIm W (calleeEnv W D0).N t' v
  rw [e]
  exact him
end
/-! ### the arguments together -/
theorem args_x {w : World} {args : List Arg} {vals : Array Value} (hs : vals.size = args.length) (h : ∀ (i : Nat) x, args[i]? = some x → x.1 = 0 ∧ ∃ u, vals[i]? = some u ∧ ArgRow w D0 x.2 u) : ArgsX w args vals fun _ => noG where
  size := hs
  inj := fun i p i' p' ad c ad' c' h => by cases h
  rng := fun i p ad c h => by cases h
  arg := fun i x hi => by
    obtain ⟨h0, u, hu, hr⟩ := h i x hi
    refine ⟨u, hu, ?_⟩
    unfold ArgOk
    rw [if_neg (by omega), if_neg (by omega)]
    exact hr
theorem GrewD.below {w w' : World} (h : GrewD w w' D0) : RowKit.Below w.heap.size w w' := ⟨h.os, h.tape, h.output, h.size, fun b hb => h.old b hb (not_D0 b)⟩
theorem res_bool {w w' : World} {γ : Nat → Gh} {args vals k b v δ} (h : ResX w w' γ args vals (F.erB k b).1 (F.erB k b).2 v δ) : v = .bool b := h.res (calleeEnv w D0) (fun _ => noG) fun _ => z0
/-! ### shapes of lists -/
namespace F
theorem sh_int {t : T} {k : IntKind} (h : ShT t (.int k)) : ∃ n, t = .int k n ∧ (Lit.int k n).wf = true := by
  cases t <;> simp only [ShT] at h
  · obtain ⟨h, hw⟩ := h
    cases h
    exact ⟨_, rfl, hw⟩
  · cases h
  · obtain ⟨_, h, _⟩ := h
    cases h
theorem sh_bool {t : T} (h : ShT t .bool) : ∃ b, t = .bool b := by
  cases t <;> simp only [ShT] at h
  · obtain ⟨h, hw⟩ := h
    cases h
  · exact ⟨_, rfl⟩
  · obtain ⟨_, h, _⟩ := h
    cases h
theorem sh_list {α : Type} {row : α → List T} {ss : List Sh} (ok : α → Prop) (hrow : ∀ x, (row x).length = ss.length) (hc : ∀ ts, ShTs ts ss → ∃ x, ts = row x ∧ ok x) {t : T} (h : ShT t (.arr ss)) :
    ∃ l : List α, t = eL ss.length row l ∧ l.length ≤ ZM ∧ ∀ x ∈ l, ok x := by
  cases t <;> simp only [ShT] at h
  · obtain ⟨h, hw⟩ := h
    cases h
  · cases h
  rename_i m n f
  obtain ⟨ss', h1, rfl, hn, hin, hout⟩ := h
  cases h1
  have hts : ∀ j, j < n → ShTs ((List.range ss.length).map (f j)) ss := by
    intro j hj
    have key : ∀ (l : List Sh) (o : Nat), (∀ k s', l[k]? = some s' → ShT (f j (o + k)) s') → ShTs ((List.range' o l.length).map (f j)) l := by
      intro l
      induction l with
      | nil => intro o _; trivial
      | cons s l ih =>
        intro o hl
        simp only [List.length_cons, List.range'_succ, List.map_cons]
        refine ⟨hl 0 s rfl, ih (o + 1) fun k s' hk => ?_⟩
        have := hl (k + 1) s' (by simpa using hk)
        rwa [show o + (k + 1) = o + 1 + k by omega] at this
    rw [List.range_eq_range']
    exact key ss 0 fun k s' hk => by rw [Nat.zero_add]; exact hin j hj k s' hk
  have hx : ∀ j, ∃ o : Option α, j < n → ∃ x, o = some x ∧ (List.range ss.length).map (f j) = row x ∧ ok x := fun j => by
    by_cases hj : j < n
    · obtain ⟨x, h1, h2⟩ := hc _ (hts j hj)
      exact ⟨some x, fun _ => ⟨x, rfl, h1, h2⟩⟩
    · exact ⟨none, fun h => absurd h hj⟩
  obtain ⟨g, hg⟩ := Classical.axiomOfChoice hx
  have hl : ∀ i, i ≤ n → ∃ l : List α, l.length = i ∧ ∀ j, j < i → l[j]? = g j := by
    intro i
    induction i with
    | zero => exact fun _ => ⟨[], rfl, fun j hj => by omega⟩
    | succ i ih =>
      intro hi
      obtain ⟨l, h1, h2⟩ := ih (by omega)
      obtain ⟨x, h3, _⟩ := hg i (by omega)
      refine ⟨l ++ [x], by simp [h1], fun j hj => ?_⟩
      by_cases hj' : j < i
      · rw [List.getElem?_append_left (by omega)]; exact h2 j hj'
      · have : j = i := by omega
        subst this
        rw [List.getElem?_append_right (by omega), h1, h3]
        simp
  obtain ⟨l, h1, h2⟩ := hl n (Nat.le_refl _)
  refine ⟨l, eL_ext h1.symm fun j k => ?_, by omega, fun x hx => ?_⟩
  · by_cases hj : j < n
    · obtain ⟨x, h3, h4, _⟩ := hg j hj
      rw [h2 j hj, h3]
      dsimp only
      by_cases hk : k < ss.length
      · rw [← h4, List.getD_eq_getElem?_getD, List.getElem?_map, List.getElem?_range hk]
        rfl
      · rw [hout j k (.inr (by omega)), List.getD_eq_getElem?_getD, List.getElem?_eq_none (by rw [hrow]; omega)]
        rfl
    · rw [List.getElem?_eq_none (by omega)]
      exact hout j k (.inl (by omega))
  · obtain ⟨j, hj, rfl⟩ := List.getElem_of_mem hx
    obtain ⟨y, h3, _, h5⟩ := hg j (by omega)
    have := h2 j (by omega)
    rw [List.getElem?_eq_getElem hj, h3] at this
    cases this
    exact h5
theorem shs_nil {ts : List T} (h : ShTs ts []) : ts = [] := by cases ts with | nil => rfl | cons _ _ => exact h.elim
theorem shs_cons {ts : List T} {s ss} (h : ShTs ts (s :: ss)) : ∃ t ts', ts = t :: ts' ∧ ShT t s ∧ ShTs ts' ss := by cases ts with | nil => exact h.elim | cons t ts => exact ⟨t, ts, rfl, h⟩
theorem sh_LI {t : T} (h : ShT t (.arr [.int .i64])) : ∃ l : List Int, t = eI l ∧ l.length ≤ ZM := by
  obtain ⟨l, h1, h2, _⟩ := sh_list (row := rowI) (fun _ => True) (fun _ => rfl) (fun ts hts => by
    obtain ⟨t, ts', rfl, h1, h2⟩ := shs_cons hts
    obtain rfl := shs_nil h2
    obtain ⟨n, rfl, _⟩ := sh_int h1
    exact ⟨n, rfl, trivial⟩) h
  exact ⟨l, h1, h2⟩
theorem sh_LB {t : T} (h : ShT t (.arr [.int .u8])) : ∃ l : List UInt8, t = eB l ∧ l.length ≤ ZM := by
  obtain ⟨l, h1, h2, _⟩ := sh_list (row := rowB) (fun _ => True) (fun _ => rfl) (fun ts hts => by
    obtain ⟨t, ts', rfl, h1, h2⟩ := shs_cons hts
    obtain rfl := shs_nil h2
    obtain ⟨n, rfl, hw⟩ := sh_int h1
    have hn : IntKind.u8.min ≤ n ∧ n ≤ IntKind.u8.max := by simpa [Lit.wf] using hw
    rw [show IntKind.u8.min = 0 from rfl, show IntKind.u8.max = 255 from rfl] at hn
    refine ⟨UInt8.ofNat n.toNat, ?_, trivial⟩
    simp only [rowB, UInt8.toNat_ofNat']
    congr 2
    omega) h
  exact ⟨l, h1, h2⟩
end F
end Go.Mach
namespace Go.Mach.F
open Go Go.Mach Go.Proofs.Try
--=set_option maxRecDepth 100000
theorem aR_inj {cs cs' : List T} (h : aR cs = aR cs') : cs = cs' := by
  have e := congrArg (fun a : Arg => a.2.2) h
  exact (List.map_inj_right (fun x y h => by cases h; rfl)).1 e
theorem aT_inj {t t' : T} (h : aT t = aT t') : t = t' := by cases h; rfl
theorem aI_inj {n m : Int} (h : aI n = aI m) : n = m := by cases h; rfl
theorem aB_inj {n m : Bool} (h : aB n = aB m) : n = m := by cases h; rfl
theorem cond_tf (b : Bool) : (bif b then true else false) = b := by cases b <;> rfl
theorem cond_bf (a b : Bool) : (bif a then b else false) = (a && b) := by cases a <;> rfl
theorem dec_and {p q : Prop} [Decidable p] [Decidable q] : (decide p && decide q) = decide (p ∧ q) := (Bool.decide_and p q).symm
theorem int_eq (a b : Int) : (a == b) = decide (a = b) := by by_cases h : a = b <;> simp [h]
theorem cut_all {α : Type} (row : α → List T) (l : List α) : cutT 0 l.length (atL row l) = atL row l := by
  funext j k
  unfold cutT
  rw [blt_d, Bool.cond_decide]
  split
  · rw [Nat.zero_add]
  · rename_i h
    unfold atL
    rw [List.getElem?_eq_none (by omega)]
theorem bool_self (b : Bool) : (b == b) = true := by cases b <;> rfl
theorem bool_nself (b : Bool) : (b != b) = false := by cases b <;> rfl
theorem int_self (a : Int) : (a == a) = true := by simp
theorem int_nself (a : Int) : (a != a) = false := by simp
def aF (f : Nat) (cs : List T) : Arg := (0, (false, [.fn f [.pim cs.length (pimF cs)]]))
theorem aF_inj {f : Nat} {cs cs' : List T} (hl : cs.length = cs'.length) (h : aF f cs = aF f cs') : cs = cs' := by
  simp only [aF, Prod.mk.injEq, List.cons.injEq, C.fn.injEq, Pt.pim.injEq, true_and, and_true] at h
  apply List.ext_getElem hl
  intro i hi hi'
  have := congrFun h.2 i
  simpa [pimF, List.getD_eq_getElem?_getD, List.getElem?_eq_getElem hi, List.getElem?_eq_getElem hi'] using this
theorem Hd.cs_ext {x y : Hd} (h : x.cs = y.cs) : x = y := Hd.cs_inj x y fun k => by rw [h]
theorem Rf.cs_inj (x y : Rf) (h : ∀ k, x.cs.getD k .hole = y.cs.getD k .hole) : x = y := by
  have h0 := h 0; have h1 := h 1; have h2 := h 2; have h3 := h 3
  rcases x with ⟨⟨x0, x1⟩, x2, x3⟩
  rcases y with ⟨⟨y0, y1⟩, y2, y3⟩
  simp only [Rf.cs, List.getD_cons_zero, List.getD_cons_succ, T.int.injEq, T.bool.injEq, true_and] at h0 h1 h2 h3
  subst h0; subst h1; subst h2; subst h3
  rfl
theorem Rf.cs_ext {x y : Rf} (h : x.cs = y.cs) : x = y := Rf.cs_inj x y fun k => by rw [h]
theorem Cf.cs_inj (x y : Cf) (h : ∀ k, x.cs.getD k .hole = y.cs.getD k .hole) : x = y := by
  have h0 := h 0; have h1 := h 1; have h2 := h 2; have h3 := h 3; have h4 := h 4; have h5 := h 5
  rcases x with ⟨x0, x1, x2, x3, x4, x5⟩
  rcases y with ⟨y0, y1, y2, y3, y4, y5⟩
  simp only [Cf.cs, List.getD_cons_zero, List.getD_cons_succ, T.int.injEq, T.bool.injEq, true_and] at h0 h1 h2 h3 h4 h5
  subst h0; subst h1; subst h2; subst h3; subst h4; subst h5
  rfl
theorem Cf.cs_ext {x y : Cf} (h : x.cs = y.cs) : x = y := Cf.cs_inj x y fun k => by rw [h]
def i_toCf : Nat := 55
noncomputable abbrev F_toCf : Func := f55
def kp_toCf : List (Nat × List Nat) := [(0, [4, 5, 8, 9]), (1, [4, 5, 8, 9, 12, 13]), (2, [4, 5, 8, 9, 12, 13]), (3, [4, 5, 8, 9, 12, 13]), (4, [4, 5, 8, 9, 12, 13]), (5, [4, 5, 8, 9, 12, 13]), (6, [4, 5, 8, 9, 12, 13]), (7, [8, 9, 12, 13]), (8, [8, 9])]
noncomputable def e_toCf : Ent := inl [] prog (tabS []) kp_toCf 0 F_toCf
theorem s_toCf : EntOk prog i_toCf e_toCf := inl_ok tabS_nil mixed (c := bodyOf F_toCf) func55 (by kernel_rfl) (name_ok (by kernel_rfl))
def i_eqCf : Nat := 66
noncomputable abbrev F_eqCf : Func := f66
def kp_eqCf : List (Nat × List Nat) := [(0, [8, 9, 12, 13]), (1, [8, 9, 12, 13, 36]), (2, [16]), (3, [8, 9, 12, 13, 56]), (4, [16]), (5, [8, 9, 12, 13, 76]), (6, [16]), (7, [8, 9, 12, 13, 96]), (8, [16]), (9, [8, 9, 12, 13, 116]), (10, [16]), (11, [136]), (12, [16]), (13, [16])]
noncomputable def e_eqCf : Ent := inl [] prog (tabS []) kp_eqCf 0 F_eqCf
theorem s_eqCf : EntOk prog i_eqCf e_eqCf := inl_ok tabS_nil mixed (c := bodyOf F_eqCf) func66 (by kernel_rfl) (name_ok (by kernel_rfl))
abbrev shHd : List Sh := [.int .i64, .int .i64]
def z_Hd (x : Hd) : Prop := True
theorem sh_Hd {ts : List T} (hh : ShTs ts shHd) : ∃ x : Hd, ts = x.cs ∧ z_Hd x := by
  obtain ⟨t0, ts, rfl, h0, hh⟩ := shs_cons hh
  obtain ⟨t1, ts, rfl, h1, hh⟩ := shs_cons hh
  obtain rfl := shs_nil hh
  obtain ⟨x0, rfl, _⟩ := sh_int h0
  obtain ⟨x1, rfl, _⟩ := sh_int h1
  exact ⟨⟨x0, x1⟩, rfl, trivial⟩
theorem sh_HdS {t : T} (h : ShT t (.arr shHd)) : ∃ l : List Hd, t = eL 2 Hd.cs l ∧ l.length ≤ ZM ∧ ∀ x ∈ l, z_Hd x := sh_list z_Hd (fun _ => rfl) (fun _ hts => sh_Hd hts) h
end Go.Mach.F
namespace Go.Mach.F
open Go Go.Mach Go.Proofs.Try
--=set_option maxRecDepth 100000
theorem Rm.cs_inj (x y : Rm) (h : ∀ k, x.cs.getD k .hole = y.cs.getD k .hole) : x = y := by
  have h0 := h 0; have h1 := h 1; have h2 := h 2; have h3 := h 3; have h4 := h 4; have h5 := h 5; have h6 := h 6; have h7 := h 7; have h8 := h 8; have h9 := h 9; have h10 := h 10
  rcases x with ⟨⟨x0, x1⟩, ⟨x2, x3⟩, x4, x5, x6, x7, x8, x9, x10⟩
  rcases y with ⟨⟨y0, y1⟩, ⟨y2, y3⟩, y4, y5, y6, y7, y8, y9, y10⟩
  simp only [Rm.cs, List.getD_cons_zero, List.getD_cons_succ, T.int.injEq, T.bool.injEq, true_and] at h0 h1 h2 h3 h4 h5 h6 h7 h8 h9 h10
  replace h4 := eL_inj Hd.cs_inj h4
  replace h9 := eL_inj Sf.cs_inj h9
  replace h10 := eI_inj h10
  subst h0; subst h1; subst h2; subst h3; subst h4; subst h5; subst h6; subst h7; subst h8; subst h9; subst h10
  rfl
def i_toRm : Nat := 125
noncomputable abbrev F_toRm : Func := f125
def kp_toRm : List (Nat × List Nat) := [(0, [4, 5, 8, 9, 12, 13, 144]), (1, [4, 5, 8, 9, 12, 13, 144]), (2, [4, 5, 8, 9, 12, 13, 144]), (3, [4, 5, 8, 9, 12, 13, 144]), (4, [4, 5, 8, 9, 12, 13, 144]), (5, [4, 5, 8, 9, 12, 13, 144]), (6, [4, 5, 8, 9, 12, 13, 144]), (7, [4, 5, 8, 9, 12, 13, 144]), (8, [4, 5, 8, 9, 12, 13, 144]), (9, [4, 5, 8, 9, 12, 13, 144]), (10, [8, 9, 12, 13, 144]), (11, [8, 9, 12, 13, 144])]
noncomputable def e_toRm : Ent := inl [] prog (tabS [(i_toHd, e_toHd), (i_toHdS, e_toHdS), (i_toSfS, e_toSfS), (i_toLI, e_toLI)]) kp_toRm 0 F_toRm
theorem s_toRm : EntOk prog i_toRm e_toRm := inl_ok (tabS_cons s_toHd (tabS_cons s_toHdS (tabS_cons s_toSfS (tabS_cons s_toLI tabS_nil)))) mixed (c := bodyOf F_toRm) func125 (by kernel_rfl) (name_ok (by kernel_rfl))
def i_eqRm : Nat := 24
noncomputable abbrev F_eqRm : Func := f24
def kp_eqRm : List (Nat × List Nat) := [(0, [8, 9, 12, 13]), (1, [8, 9, 12, 13, 40]), (2, [16]), (3, [8, 9, 12, 13, 64]), (4, [16]), (5, [8, 9, 12, 13, 88]), (6, [16]), (7, [8, 9, 12, 13, 108]), (8, [16]), (9, [8, 9, 12, 13, 128]), (10, [16]), (11, [8, 9, 12, 13, 148]), (12, [16]), (13, [8, 9, 12, 13, 168]), (14, [16]), (15, [8, 9, 12, 13, 192]), (16, [16]), (17, [216]), (18, [16]), (19, [16])]
noncomputable def e_eqRm : Ent := inl [] prog (tabS [(i_eqHd, e_eqHd), (i_eqHdS, e_eqHdS), (i_eqSfS, e_eqSfS), (i_eqLI, e_eqLI)]) kp_eqRm 0 F_eqRm
theorem s_eqRm : EntOk prog i_eqRm e_eqRm := inl_ok (tabS_cons s_eqHd (tabS_cons s_eqHdS (tabS_cons s_eqSfS (tabS_cons s_eqLI tabS_nil)))) mixed (c := bodyOf F_eqRm) func24 (by kernel_rfl) (name_ok (by kernel_rfl))
def i_szRm : Nat := 120
noncomputable abbrev F_szRm : Func := f120
def kp_szRm : List (Nat × List Nat) := [(0, [4, 8, 9]), (1, [4, 8, 9]), (2, [4, 8, 9, 40]), (3, [16]), (4, [4, 8, 9]), (5, [4, 8, 9, 64]), (6, [16]), (7, [4]), (8, [4, 88]), (9, [16]), (10, [16])]
noncomputable def e_szRm : Ent := inl [] prog (tabS [(i_szHdS, e_szHdS), (i_szSfS, e_szSfS), (i_szLI, e_szLI)]) kp_szRm 0 F_szRm
theorem s_szRm : EntOk prog i_szRm e_szRm := inl_ok (tabS_cons s_szHdS (tabS_cons s_szSfS (tabS_cons s_szLI tabS_nil))) mixed (c := bodyOf F_szRm) func120 (by kernel_rfl) (name_ok (by kernel_rfl))
def ok_RmS (l : List Rm) : Prop := l.length ≤ LM ∧ ∀ x ∈ l, ok_HdS x.kids ∧ ok_SfS x.things ∧ ok_LI x.tags
def ea_RmS (l : List Rm) : List Arg := [aT (eL 11 Rm.cs l)]
noncomputable def e_toRmS : Ent := ent [] ok_RmS ea_RmS (fun l => erT 1 (eL 11 Rm.cs l)) fun l => l
def okq_RmS (l : List Rm) : Prop := l.length ≤ BM ∧ ∀ x ∈ l, okq_HdS x.kids ∧ okq_SfS x.things ∧ okq_LI x.tags
def ok2_RmS (x : List Rm × List Rm) : Prop := okq_RmS x.1
def ea2_RmS (x : List Rm × List Rm) : List Arg := [aT (eL 11 Rm.cs x.1), aT (eL 11 Rm.cs x.2)]
def f_eqRmS (x : List Rm × List Rm) : Bool := decide (x.1 = x.2)
noncomputable def e_eqRmS : Ent := ent [] ok2_RmS ea2_RmS (erB 2) f_eqRmS
theorem ea_RmS_inj (x y : List Rm) (h : ea_RmS x = ea_RmS y) : x = y := by
  simp only [ea_RmS, aT, List.cons.injEq, Prod.mk.injEq, true_and, and_true, C.tr.injEq] at h
  exact eL_inj Rm.cs_inj h
theorem ea2_RmS_inj (x y : List Rm × List Rm) (h : ea2_RmS x = ea2_RmS y) : x = y := by
  simp only [ea2_RmS, aT, List.cons.injEq, Prod.mk.injEq, true_and, and_true, C.tr.injEq] at h
  exact Prod.ext (eL_inj Rm.cs_inj h.1) (eL_inj Rm.cs_inj h.2)
def i_toRmS : Nat := 56
noncomputable abbrev F_toRmS : Func := f56
def kp_toRmS : List (Nat × List Nat) := [(0, [0]), (1, [0, 12]), (2, [0, 12, 16]), (3, [0, 12, 16, 44]), (4, [0, 12, 16]), (5, [0, 12, 16]), (6, [8])]
def ts_toRmS : List Nat := [0]
def st_toRmS_1 (l : List Rm) (nx12 : Nat) (fx12 : Nat → Nat → T) (x16 : Int) : St := [(0, ⟨z0, [(false, [.tr false (eL 11 Rm.cs l)])]⟩), (12, ⟨z0, [(false, [.tr true (.arr (11) (nx12) (fx12))])]⟩), (16, ⟨z0, [(false, [.tr true (T.int IntKind.i64 x16)])]⟩)]
def ex_toRmS_1_1 (l : List Rm) (nx12 : Nat) (fx12 : Nat → Nat → T) (x16 : Int) : St := [(0, ⟨z0, [(false, [.tr false (eL 11 Rm.cs l)])]⟩), (12, ⟨z0, [(false, [.tr true (.arr (11) (nx12) (fx12))])]⟩), (16, ⟨z0, [(false, [.tr true (T.int IntKind.i64 x16)])]⟩), (44, ⟨z0, []⟩)]
theorem round_toRmS_1 (l : List Rm) (nx12 : Nat) (fx12 : Nat → Nat → T) (x16 : Int) (n : Nat) (K : Ex → St → Res) : roundAt prog (tabS [(i_toRm, e_toRm)]) kp_toRmS F_toRmS [1, 1, 0, 1, 0] n (st_toRmS_1 l nx12 fx12 x16) K = (
 bif decide (x16 < (↑l.length : Int)) then
  gd (decide (0 ≤ x16) && (x16.toNat.blt l.length && true)) <|
  gd (T.isI IntKind.i64 (atL Rm.cs l x16.toNat 0) && T.isI IntKind.i64 (atL Rm.cs l x16.toNat 1) &&
                  T.isI IntKind.i64 (atL Rm.cs l x16.toNat 2) &&
                T.isI IntKind.i64 (atL Rm.cs l x16.toNat 3) &&
              ((atL Rm.cs l x16.toNat 4).isArr && (atL Rm.cs l x16.toNat 4).wd.beq 2) &&
            T.isI IntKind.i64 (atL Rm.cs l x16.toNat 5) &&
          T.isI IntKind.i64 (atL Rm.cs l x16.toNat 6) &&
        (atL Rm.cs l x16.toNat 7).isB &&
      T.isI IntKind.i64 (atL Rm.cs l x16.toNat 8) &&
    ((atL Rm.cs l x16.toNat 9).isArr && (atL Rm.cs l x16.toNat 9).wd.beq 1) &&
  ((atL Rm.cs l x16.toNat 10).isArr && (atL Rm.cs l x16.toNat 10).wd.beq 1)) <|
  gd (dom ok_HdS ea_HdS [(0, false, [C.tr false (T.arr 2 (atL Rm.cs l x16.toNat 4).ln (atL Rm.cs l x16.toNat 4).fn)])]) <|
  gd ((inv ok_HdS ea_HdS
          [(0, false, [C.tr false (T.arr 2 (atL Rm.cs l x16.toNat 4).ln (atL Rm.cs l x16.toNat 4).fn)])]).length.ble
    (inv ok_HdS ea_HdS
        [(0, false, [C.tr false (T.arr 2 (atL Rm.cs l x16.toNat 4).ln (atL Rm.cs l x16.toNat 4).fn)])]).length &&
  true) <|
  gd (dom ok_SfS ea_SfS [(0, false, [C.tr false (T.arr 1 (atL Rm.cs l x16.toNat 9).ln (atL Rm.cs l x16.toNat 9).fn)])]) <|
  gd ((inv ok_SfS ea_SfS
          [(0, false, [C.tr false (T.arr 1 (atL Rm.cs l x16.toNat 9).ln (atL Rm.cs l x16.toNat 9).fn)])]).length.ble
    (inv ok_SfS ea_SfS
        [(0, false, [C.tr false (T.arr 1 (atL Rm.cs l x16.toNat 9).ln (atL Rm.cs l x16.toNat 9).fn)])]).length &&
  true) <|
  gd (dom ok_LI ea_LI [(0, false, [C.tr false (T.arr 1 (atL Rm.cs l x16.toNat 10).ln (atL Rm.cs l x16.toNat 10).fn)])]) <|
  gd ((inv ok_LI ea_LI
          [(0, false, [C.tr false (T.arr 1 (atL Rm.cs l x16.toNat 10).ln (atL Rm.cs l x16.toNat 10).fn)])]).length.ble
    (inv ok_LI ea_LI
        [(0, false, [C.tr false (T.arr 1 (atL Rm.cs l x16.toNat 10).ln (atL Rm.cs l x16.toNat 10).fn)])]).length &&
  true) <|
  gd ((inv ok_HdS ea_HdS
          [(0, false, [C.tr false (T.arr 2 (atL Rm.cs l x16.toNat 4).ln (atL Rm.cs l x16.toNat 4).fn)])]).length.ble
    (inv ok_HdS ea_HdS
        [(0, false, [C.tr false (T.arr 2 (atL Rm.cs l x16.toNat 4).ln (atL Rm.cs l x16.toNat 4).fn)])]).length &&
  true) <|
  gd ((inv ok_SfS ea_SfS
          [(0, false, [C.tr false (T.arr 1 (atL Rm.cs l x16.toNat 9).ln (atL Rm.cs l x16.toNat 9).fn)])]).length.ble
    (inv ok_SfS ea_SfS
        [(0, false, [C.tr false (T.arr 1 (atL Rm.cs l x16.toNat 9).ln (atL Rm.cs l x16.toNat 9).fn)])]).length &&
  true) <|
  gd ((inv ok_LI ea_LI
          [(0, false, [C.tr false (T.arr 1 (atL Rm.cs l x16.toNat 10).ln (atL Rm.cs l x16.toNat 10).fn)])]).length.ble
    (inv ok_LI ea_LI
        [(0, false, [C.tr false (T.arr 1 (atL Rm.cs l x16.toNat 10).ln (atL Rm.cs l x16.toNat 10).fn)])]).length &&
  true) <|
  gd ((inv ok_HdS ea_HdS
          [(0, false, [C.tr false (T.arr 2 (atL Rm.cs l x16.toNat 4).ln (atL Rm.cs l x16.toNat 4).fn)])]).length.ble
    (inv ok_HdS ea_HdS
        [(0, false, [C.tr false (T.arr 2 (atL Rm.cs l x16.toNat 4).ln (atL Rm.cs l x16.toNat 4).fn)])]).length &&
  true) <|
  gd ((inv ok_SfS ea_SfS
          [(0, false, [C.tr false (T.arr 1 (atL Rm.cs l x16.toNat 9).ln (atL Rm.cs l x16.toNat 9).fn)])]).length.ble
    (inv ok_SfS ea_SfS
        [(0, false, [C.tr false (T.arr 1 (atL Rm.cs l x16.toNat 9).ln (atL Rm.cs l x16.toNat 9).fn)])]).length &&
  true) <|
  gd ((inv ok_LI ea_LI
          [(0, false, [C.tr false (T.arr 1 (atL Rm.cs l x16.toNat 10).ln (atL Rm.cs l x16.toNat 10).fn)])]).length.ble
    (inv ok_LI ea_LI
        [(0, false, [C.tr false (T.arr 1 (atL Rm.cs l x16.toNat 10).ln (atL Rm.cs l x16.toNat 10).fn)])]).length &&
  true) <|
  gd (decide (0 ≤ x16) && (x16.toNat.blt nx12 && true)) <|
  gd ((inv ok_HdS ea_HdS
          [(0, false, [C.tr false (T.arr 2 (atL Rm.cs l x16.toNat 4).ln (atL Rm.cs l x16.toNat 4).fn)])]).length.ble
    (inv ok_HdS ea_HdS
        [(0, false, [C.tr false (T.arr 2 (atL Rm.cs l x16.toNat 4).ln (atL Rm.cs l x16.toNat 4).fn)])]).length &&
  true) <|
  gd ((inv ok_SfS ea_SfS
          [(0, false, [C.tr false (T.arr 1 (atL Rm.cs l x16.toNat 9).ln (atL Rm.cs l x16.toNat 9).fn)])]).length.ble
    (inv ok_SfS ea_SfS
        [(0, false, [C.tr false (T.arr 1 (atL Rm.cs l x16.toNat 9).ln (atL Rm.cs l x16.toNat 9).fn)])]).length &&
  true) <|
  gd ((inv ok_LI ea_LI
          [(0, false, [C.tr false (T.arr 1 (atL Rm.cs l x16.toNat 10).ln (atL Rm.cs l x16.toNat 10).fn)])]).length.ble
    (inv ok_LI ea_LI
        [(0, false, [C.tr false (T.arr 1 (atL Rm.cs l x16.toNat 10).ln (atL Rm.cs l x16.toNat 10).fn)])]).length &&
  true) <|
  gd ((0 + x16.toNat).blt nx12 && true && true) <|
  gd ((0 + x16.toNat).blt nx12 && true && true) <|
  gd ((0 + x16.toNat).blt nx12 && true && true) <|
  gd ((0 + x16.toNat).blt nx12 && true && true) <|
  gd ((0 + x16.toNat).blt nx12 && true && true) <|
  gd ((0 + x16.toNat).blt nx12 && true && true) <|
  gd ((0 + x16.toNat).blt nx12 && true && true) <|
  gd ((0 + x16.toNat).blt nx12 && true && true) <|
  gd ((0 + x16.toNat).blt nx12 && true && true) <|
  gd ((0 + x16.toNat).blt nx12 && true && true) <|
  gd ((0 + x16.toNat).blt nx12 && true && true) <|
  K .normal (st_toRmS_1 l (nx12) (setF (0 + x16.toNat) (1 + 1 + 1 + 1 + 1 + 1 + 1 + 1 + 1 + 1)
  (T.arr 1
    (inv ok_LI ea_LI
        [(0, false, [C.tr false (T.arr 1 (atL Rm.cs l x16.toNat 10).ln (atL Rm.cs l x16.toNat 10).fn)])]).length
    (atL rowI
      (inv ok_LI ea_LI
        [(0, false, [C.tr false (T.arr 1 (atL Rm.cs l x16.toNat 10).ln (atL Rm.cs l x16.toNat 10).fn)])])))
  (setF (0 + x16.toNat) (1 + 1 + 1 + 1 + 1 + 1 + 1 + 1 + 1)
    (T.arr 1
      (inv ok_SfS ea_SfS
          [(0, false, [C.tr false (T.arr 1 (atL Rm.cs l x16.toNat 9).ln (atL Rm.cs l x16.toNat 9).fn)])]).length
      (eL 1 Sf.cs
          (inv ok_SfS ea_SfS
            [(0, false, [C.tr false (T.arr 1 (atL Rm.cs l x16.toNat 9).ln (atL Rm.cs l x16.toNat 9).fn)])])).fn)
    (setF (0 + x16.toNat) (1 + 1 + 1 + 1 + 1 + 1 + 1 + 1) (T.int IntKind.i64 (atL Rm.cs l x16.toNat 8).toI)
      (setF (0 + x16.toNat) (1 + 1 + 1 + 1 + 1 + 1 + 1) (T.bool (atL Rm.cs l x16.toNat 7).toB)
        (setF (0 + x16.toNat) (1 + 1 + 1 + 1 + 1 + 1) (T.int IntKind.i64 (atL Rm.cs l x16.toNat 6).toI)
          (setF (0 + x16.toNat) (1 + 1 + 1 + 1 + 1) (T.int IntKind.i64 (atL Rm.cs l x16.toNat 5).toI)
            (setF (0 + x16.toNat) (1 + 1 + 1 + 1)
              (T.arr 2
                (inv ok_HdS ea_HdS
                    [(0, false,
                        [C.tr false (T.arr 2 (atL Rm.cs l x16.toNat 4).ln (atL Rm.cs l x16.toNat 4).fn)])]).length
                (eL 2 Hd.cs
                    (inv ok_HdS ea_HdS
                      [(0, false,
                          [C.tr false (T.arr 2 (atL Rm.cs l x16.toNat 4).ln (atL Rm.cs l x16.toNat 4).fn)])])).fn)
              (setF (0 + x16.toNat) (1 + 1 + 1) (T.int IntKind.i64 (atL Rm.cs l x16.toNat 3).toI)
                (setF (0 + x16.toNat) (1 + 1) (T.int IntKind.i64 (atL Rm.cs l x16.toNat 2).toI)
                  (setF (0 + x16.toNat) 1 (T.int IntKind.i64 (atL Rm.cs l x16.toNat 1).toI)
                    (setF (0 + x16.toNat) 0 (T.int IntKind.i64 (atL Rm.cs l x16.toNat 0).toI) fx12))))))))))) (IntKind.i64.wrap (x16 + 1)))
 else
 K (.exit 0) (ex_toRmS_1_1 l nx12 fx12 x16)) := by kernel_rfl
theorem post_toRmS_1_1 (l : List Rm) (nx12 : Nat) (fx12 : Nat → Nat → T) (x16 : Int) (n : Nat) : contAt prog (tabS [(i_toRm, e_toRm)]) kp_toRmS F_toRmS ts_toRmS [1, 1, 0, 1, 0] [] n (.exit 0) (ex_toRmS_1_1 l nx12 fx12 x16) = (
 gd (nx12.ble nx12 && true) <|
 gd (nx12.ble nx12 && true) <|
 some ([(false, [.tr true (.arr (11) (nx12) (fx12))])], [(false, [])])) := by kernel_rfl
theorem pre_toRmS (l : List Rm) (n : Nat) : body prog (tabS [(i_toRm, e_toRm)]) kp_toRmS n F_toRmS [aT (eL 11 Rm.cs l)] = (
 gd (decide (0 ≤ (↑l.length : Int)) &&
  (decide ((↑l.length : Int) ≤ (↑l.length : Int)) &&
    (((↑l.length : Int).toNat * 136).ble 70368744177664 && (↑l.length : Int).toNat.ble 70368744177664))) <|
 gd ((↑l.length : Int).toNat.ble (↑l.length : Int).toNat && true) <|
 loopAt prog (tabS [(i_toRm, e_toRm)]) kp_toRmS F_toRmS [1, 1, 0, 1, 0] n n (st_toRmS_1 l ((↑l.length : Int).toNat) (cutT 0 (↑l.length : Int).toNat (zeroT prog 54)) (0)) (contAt prog (tabS [(i_toRm, e_toRm)]) kp_toRmS F_toRmS ts_toRmS [1, 1, 0, 1, 0] [] n)) := by kernel_rfl
theorem body_toRmS (l : List Rm) (hl : ok_RmS l) : body prog (tabS [(i_toRm, e_toRm)]) kp_toRmS (l.length + 1) F_toRmS (ea_RmS l) = some (erT 1 (eL 11 Rm.cs l)) := by
  have hl' : l.length ≤ LM := hl.1
  have hlm := lm
  unfold ea_RmS
  rw [pre_toRmS]
  simp only [ge0_d, Int.toNat_natCast, ble_d, Int.le_refl, Nat.le_refl, decide_true, Bool.and_true, Bool.true_and, gd_true]
  rw [decide_eq_true (show l.length * 136 ≤ 70368744177664 by omega), decide_eq_true (show l.length ≤ 70368744177664 by omega)]
  simp only [Bool.and_true, gd_true]
  rw [zero_fill (m := 11) (row := Rm.cs) (d := default) l.length (fun j k => by rcases k with _ | _ | _ | _ | _ | _ | _ | _ | _ | _ | _ | _ <;> kernel_rfl), ← fill_zero l default]
  have hst : st_toRmS_1 l l.length (atL Rm.cs (fill l default 0)) 0 = (fun i : Nat => st_toRmS_1 l l.length (atL Rm.cs (fill l default i)) (i : Nat)) 0 := rfl
  rw [hst, forLoop l.length (fun i : Nat => st_toRmS_1 l l.length (atL Rm.cs (fill l default i)) (i : Nat)) (ex_toRmS_1_1 l l.length (atL Rm.cs l) l.length) 0 (fun i K hi => ?_) (fun K => ?_) _ (Nat.le_refl _)]
  · rw [post_toRmS_1_1]
    simp only [ble_d, Nat.le_refl, decide_true, gd_true, Bool.and_true]
    rfl
  · have hx := List.getElem?_eq_getElem hi
    have h0 := (hl.2 _ (List.getElem_mem hi)).1
    have h1 := (hl.2 _ (List.getElem_mem hi)).2.1
    have h2 := (hl.2 _ (List.getElem_mem hi)).2.2
    have hd : (fill l default i)[i]? = some default := by
      unfold fill
      rw [List.getElem?_append_right (by simp; omega), List.getElem?_replicate, if_pos (by simp; omega)]
    rw [round_toRmS_1]
    simp only [lt_d, ge0_d, Int.toNat_natCast, blt_d, ble_self, beq_self, decide_true, cond_true, Bool.and_self, Bool.and_true, Bool.true_and, gd_true, Nat.zero_add, List.getD_cons_zero, List.getD_cons_succ, isI_int, toI_int, isB_bool, toB_bool, eL_T, arr_ln, arr_fn, arr_wd, arr_is, arr_get, hi, atL_of hx, Rm.cs, dm_toHdS h0, iv_toHdS h0, dm_toSfS h1, iv_toSfS h1, dm_toLI h2, iv_toLI h2]
    rw [wrapS (by omega), ← fill_set l default hx]
    congr 3
    refine set_atL (by rw [fill_len l default (by omega)]; exact hi) fun j' k' => ?_
    by_cases e : j' = i
    · subst e
      rcases k' with _ | _ | _ | _ | _ | _ | _ | _ | _ | _ | _ | k' <;> simp [setF_d, Rm.cs, atL_of hd, eL_T]
    · simp [setF_d, e]
  · rw [round_toRmS_1, fill_all]
    simp only [lt_d, Nat.lt_irrefl, decide_false, cond_false]
theorem s_toRmS : EntOk prog i_toRmS e_toRmS := ent_ok ea_RmS_inj fun l hl =>
  body_sound (φ := (tabS [(i_toRm, e_toRm)])) (tabS_cons s_toRm tabS_nil) mixed (kp := kp_toRmS) (n := l.length + 1) func56 (c := bodyOf F_toRmS) (by kernel_rfl) (body_toRmS l hl) (name_ok (by kernel_rfl))
def i_eqRmS : Nat := 67
noncomputable abbrev F_eqRmS : Func := f67
def kp_eqRmS : List (Nat × List Nat) := [(0, [0, 4]), (1, [0, 4, 40]), (2, [16]), (3, [0, 4, 20]), (4, [0, 4, 20, 56]), (5, [0, 4, 20]), (6, [0, 4, 20, 104]), (7, [16]), (8, [16])]
def ts_eqRmS : List Nat := [0, 0]
def st_eqRmS_1 (l r : List Rm) (x20 : Int) : St := [(0, ⟨z0, [(false, [.tr false (eL 11 Rm.cs l)])]⟩), (4, ⟨z0, [(false, [.tr false (eL 11 Rm.cs r)])]⟩), (20, ⟨z0, [(false, [.tr true (T.int IntKind.i64 x20)])]⟩)]
def ex_eqRmS_1_1 (l r : List Rm) (x20 : Int) : St := [(16, ⟨z0, [(false, [.tr true (T.bool false)])]⟩)]
def ex_eqRmS_1_2 (l r : List Rm) (x20 : Int) : St := [(0, ⟨z0, [(false, [.tr false (eL 11 Rm.cs l)])]⟩), (4, ⟨z0, [(false, [.tr false (eL 11 Rm.cs r)])]⟩), (20, ⟨z0, [(false, [.tr true (T.int IntKind.i64 x20)])]⟩), (56, ⟨z0, []⟩)]
theorem round_eqRmS_1 (l r : List Rm) (x20 : Int) (n : Nat) (K : Ex → St → Res) : roundAt prog (tabS [(i_eqRm, e_eqRm)]) kp_eqRmS F_eqRmS [1, 1, 0, 1, 0] n (st_eqRmS_1 l r x20) K = (
 bif decide (x20 < (↑l.length : Int)) then
  gd (decide (0 ≤ x20) && (x20.toNat.blt l.length && true)) <|
  gd (T.isI IntKind.i64 (atL Rm.cs l x20.toNat 0) && T.isI IntKind.i64 (atL Rm.cs l x20.toNat 1) &&
                  T.isI IntKind.i64 (atL Rm.cs l x20.toNat 2) &&
                T.isI IntKind.i64 (atL Rm.cs l x20.toNat 3) &&
              ((atL Rm.cs l x20.toNat 4).isArr && (atL Rm.cs l x20.toNat 4).wd.beq 2) &&
            T.isI IntKind.i64 (atL Rm.cs l x20.toNat 5) &&
          T.isI IntKind.i64 (atL Rm.cs l x20.toNat 6) &&
        (atL Rm.cs l x20.toNat 7).isB &&
      T.isI IntKind.i64 (atL Rm.cs l x20.toNat 8) &&
    ((atL Rm.cs l x20.toNat 9).isArr && (atL Rm.cs l x20.toNat 9).wd.beq 1) &&
  ((atL Rm.cs l x20.toNat 10).isArr && (atL Rm.cs l x20.toNat 10).wd.beq 1)) <|
  gd (decide (0 ≤ x20) && (x20.toNat.blt r.length && true)) <|
  gd (T.isI IntKind.i64 (atL Rm.cs r x20.toNat 0) && T.isI IntKind.i64 (atL Rm.cs r x20.toNat 1) &&
                  T.isI IntKind.i64 (atL Rm.cs r x20.toNat 2) &&
                T.isI IntKind.i64 (atL Rm.cs r x20.toNat 3) &&
              ((atL Rm.cs r x20.toNat 4).isArr && (atL Rm.cs r x20.toNat 4).wd.beq 2) &&
            T.isI IntKind.i64 (atL Rm.cs r x20.toNat 5) &&
          T.isI IntKind.i64 (atL Rm.cs r x20.toNat 6) &&
        (atL Rm.cs r x20.toNat 7).isB &&
      T.isI IntKind.i64 (atL Rm.cs r x20.toNat 8) &&
    ((atL Rm.cs r x20.toNat 9).isArr && (atL Rm.cs r x20.toNat 9).wd.beq 1) &&
  ((atL Rm.cs r x20.toNat 10).isArr && (atL Rm.cs r x20.toNat 10).wd.beq 1)) <|
  bif (atL Rm.cs l x20.toNat 0).toI != (atL Rm.cs r x20.toNat 0).toI then
   K .ret (ex_eqRmS_1_1 l r x20)
  else
  bif (atL Rm.cs l x20.toNat 1).toI != (atL Rm.cs r x20.toNat 1).toI then
   K .ret (ex_eqRmS_1_1 l r x20)
  else
  bif (atL Rm.cs l x20.toNat 2).toI != (atL Rm.cs r x20.toNat 2).toI then
   K .ret (ex_eqRmS_1_1 l r x20)
  else
  bif (atL Rm.cs l x20.toNat 3).toI != (atL Rm.cs r x20.toNat 3).toI then
   K .ret (ex_eqRmS_1_1 l r x20)
  else
  gd (dom ok2_HdS ea2_HdS
  [(0, false, [C.tr false (T.arr 2 (atL Rm.cs l x20.toNat 4).ln (atL Rm.cs l x20.toNat 4).fn)]),
    (0, false, [C.tr false (T.arr 2 (atL Rm.cs r x20.toNat 4).ln (atL Rm.cs r x20.toNat 4).fn)])]) <|
  bif !f_eqHdS
    (inv ok2_HdS ea2_HdS
      [(0, false, [C.tr false (T.arr 2 (atL Rm.cs l x20.toNat 4).ln (atL Rm.cs l x20.toNat 4).fn)]),
        (0, false, [C.tr false (T.arr 2 (atL Rm.cs r x20.toNat 4).ln (atL Rm.cs r x20.toNat 4).fn)])]) then
   K .ret (ex_eqRmS_1_1 l r x20)
  else
  bif (atL Rm.cs l x20.toNat 5).toI != (atL Rm.cs r x20.toNat 5).toI then
   K .ret (ex_eqRmS_1_1 l r x20)
  else
  bif (atL Rm.cs l x20.toNat 6).toI != (atL Rm.cs r x20.toNat 6).toI then
   K .ret (ex_eqRmS_1_1 l r x20)
  else
  bif !(atL Rm.cs l x20.toNat 7).toB == (atL Rm.cs r x20.toNat 7).toB then
   K .ret (ex_eqRmS_1_1 l r x20)
  else
  bif (atL Rm.cs l x20.toNat 8).toI != (atL Rm.cs r x20.toNat 8).toI then
   K .ret (ex_eqRmS_1_1 l r x20)
  else
  gd (dom ok2_SfS ea2_SfS
  [(0, false, [C.tr false (T.arr 1 (atL Rm.cs l x20.toNat 9).ln (atL Rm.cs l x20.toNat 9).fn)]),
    (0, false, [C.tr false (T.arr 1 (atL Rm.cs r x20.toNat 9).ln (atL Rm.cs r x20.toNat 9).fn)])]) <|
  bif !f_eqSfS
    (inv ok2_SfS ea2_SfS
      [(0, false, [C.tr false (T.arr 1 (atL Rm.cs l x20.toNat 9).ln (atL Rm.cs l x20.toNat 9).fn)]),
        (0, false, [C.tr false (T.arr 1 (atL Rm.cs r x20.toNat 9).ln (atL Rm.cs r x20.toNat 9).fn)])]) then
   K .ret (ex_eqRmS_1_1 l r x20)
  else
  gd (dom ok2_LI ea2_LI
  [(0, false, [C.tr false (T.arr 1 (atL Rm.cs l x20.toNat 10).ln (atL Rm.cs l x20.toNat 10).fn)]),
    (0, false, [C.tr false (T.arr 1 (atL Rm.cs r x20.toNat 10).ln (atL Rm.cs r x20.toNat 10).fn)])]) <|
  bif !f_eqLI
    (inv ok2_LI ea2_LI
      [(0, false, [C.tr false (T.arr 1 (atL Rm.cs l x20.toNat 10).ln (atL Rm.cs l x20.toNat 10).fn)]),
        (0, false, [C.tr false (T.arr 1 (atL Rm.cs r x20.toNat 10).ln (atL Rm.cs r x20.toNat 10).fn)])]) then
   K .ret (ex_eqRmS_1_1 l r x20)
  else
  K .normal (st_eqRmS_1 l r (IntKind.i64.wrap (x20 + 1)))
 else
 K (.exit 0) (ex_eqRmS_1_2 l r x20)) := by kernel_rfl
theorem post_eqRmS_1_1 (l r : List Rm) (x20 : Int) (n : Nat) : contAt prog (tabS [(i_eqRm, e_eqRm)]) kp_eqRmS F_eqRmS ts_eqRmS [1, 1, 0, 1, 0] [] n .ret (ex_eqRmS_1_1 l r x20) = (
 some ([(false, [.tr true (T.bool false)])], [(false, []), (false, [])])) := by kernel_rfl
theorem post_eqRmS_1_2 (l r : List Rm) (x20 : Int) (n : Nat) : contAt prog (tabS [(i_eqRm, e_eqRm)]) kp_eqRmS F_eqRmS ts_eqRmS [1, 1, 0, 1, 0] [] n (.exit 0) (ex_eqRmS_1_2 l r x20) = (
 some ([(false, [.tr true (T.bool true)])], [(false, []), (false, [])])) := by kernel_rfl
theorem pre_eqRmS (l r : List Rm) (n : Nat) : body prog (tabS [(i_eqRm, e_eqRm)]) kp_eqRmS n F_eqRmS [aT (eL 11 Rm.cs l), aT (eL 11 Rm.cs r)] = (
 bif (↑l.length : Int) != (↑r.length : Int) then
  some ([(false, [.tr true (T.bool false)])], [(false, []), (false, [])])
 else
 loopAt prog (tabS [(i_eqRm, e_eqRm)]) kp_eqRmS F_eqRmS [1, 1, 0, 1, 0] n n (st_eqRmS_1 l r (0)) (contAt prog (tabS [(i_eqRm, e_eqRm)]) kp_eqRmS F_eqRmS ts_eqRmS [1, 1, 0, 1, 0] [] n)) := by kernel_rfl
theorem body_eqRmS (l r : List Rm) (hl : okq_RmS l) : body prog (tabS [(i_eqRm, e_eqRm)]) kp_eqRmS (l.length + 1) F_eqRmS (ea2_RmS (l, r)) = some (erB 2 (f_eqRmS (l, r))) := by
  have hbm := bm
  have hl' : l.length ≤ BM := hl.1
  unfold ea2_RmS f_eqRmS
  dsimp only
  rw [pre_eqRmS, int_ne]
  by_cases h : l.length = r.length
  · rw [decide_eq_true (by omega)]
    simp only [Bool.not_true, cond_false]
    have hst : st_eqRmS_1 l r 0 = (fun i : Nat => st_eqRmS_1 l r (i : Nat)) 0 := rfl
    rw [hst, eqS l r h (fun i : Nat => st_eqRmS_1 l r (i : Nat)) (fun i : Nat => ex_eqRmS_1_1 l r (i : Nat)) (ex_eqRmS_1_2 l r l.length) (fun i x y K hx hy => ?_) (fun K => ?_) (fun i => post_eqRmS_1_1 l r _ _) (post_eqRmS_1_2 l r _ _) _ (Nat.le_refl _)]
    · by_cases e : l = r
      · rw [if_pos e, decide_eq_true e]; rfl
      · rw [if_neg e, decide_eq_false e]; rfl
    · have hi := (List.getElem?_eq_some_iff.1 hx).1
      have hi' := (List.getElem?_eq_some_iff.1 hy).1
      have hxm : x ∈ l := List.mem_of_getElem? hx
      have h0 := (hl.2 _ hxm).1
      have h1 := (hl.2 _ hxm).2.1
      have h2 := (hl.2 _ hxm).2.2
      rw [round_eqRmS_1]
      simp only [lt_d, ge0_d, Int.toNat_natCast, blt_d, ble_self, beq_self, decide_true, cond_true, Bool.and_self, Bool.and_true, Bool.true_and, gd_true, Nat.zero_add, List.getD_cons_zero, List.getD_cons_succ, isI_int, toI_int, isB_bool, toB_bool, eL_T, arr_ln, arr_fn, arr_wd, arr_is, arr_get, hi, hi', atL_of hx, atL_of hy, Rm.cs, int_ne, bool_ne, bool_eq, dm_eqHdS h0, iv_eqHdS h0, d_eqHdS, dm_eqSfS h1, iv_eqSfS h1, d_eqSfS, dm_eqLI h2, iv_eqLI h2, d_eqLI, chain]
      rw [wrapS (by omega)]
      have hxy : (x.h.slot = y.h.slot ∧ x.h.gen = y.h.gen ∧ x.up.slot = y.up.slot ∧ x.up.gen = y.up.gen ∧ x.kids = y.kids ∧ x.ep = y.ep ∧ x.chunks = y.chunks ∧ x.cur = y.cur ∧ x.bump = y.bump ∧ x.things = y.things ∧ x.tags = y.tags) ↔ x = y := by
        rcases x with ⟨⟨x0, x1⟩, ⟨x2, x3⟩, x4, x5, x6, x7, x8, x9, x10⟩
        rcases y with ⟨⟨y0, y1⟩, ⟨y2, y3⟩, y4, y5, y6, y7, y8, y9, y10⟩
        simp [and_assoc]
      simp only [hxy]
    · rw [round_eqRmS_1]
      simp only [lt_d, Nat.lt_irrefl, decide_false, cond_false]
  · rw [decide_eq_false (by omega)]
    have : ¬ l = r := fun e => h (by rw [e])
    rw [decide_eq_false this]
    rfl
theorem s_eqRmS : EntOk prog i_eqRmS e_eqRmS := ent_ok ea2_RmS_inj fun x hx =>
  body_sound (φ := (tabS [(i_eqRm, e_eqRm)])) (tabS_cons s_eqRm tabS_nil) mixed (kp := kp_eqRmS) (n := x.1.length + 1) func67 (c := bodyOf F_eqRmS) (by kernel_rfl) (body_eqRmS x.1 x.2 hx) (name_ok (by kernel_rfl))
theorem dm_toRmS {l : List Rm} (h : ok_RmS l) : dom ok_RmS ea_RmS [(0, false, [C.tr false (T.arr 11 l.length (atL Rm.cs l))])] = true := dom_ea (ea := ea_RmS) (x := l) h
theorem iv_toRmS {l : List Rm} (h : ok_RmS l) : inv ok_RmS ea_RmS [(0, false, [C.tr false (T.arr 11 l.length (atL Rm.cs l))])] = l := inv_ea ea_RmS_inj (x := l) h
theorem dm_eqRmS {l r : List Rm} (h : okq_RmS l) : dom ok2_RmS ea2_RmS [(0, false, [C.tr false (T.arr 11 l.length (atL Rm.cs l))]), (0, false, [C.tr false (T.arr 11 r.length (atL Rm.cs r))])] = true := dom_ea (ea := ea2_RmS) (x := (l, r)) h
theorem iv_eqRmS {l r : List Rm} (h : okq_RmS l) : inv ok2_RmS ea2_RmS [(0, false, [C.tr false (T.arr 11 l.length (atL Rm.cs l))]), (0, false, [C.tr false (T.arr 11 r.length (atL Rm.cs r))])] = (l, r) := inv_ea ea2_RmS_inj (x := (l, r)) h
theorem d_eqRmS (l r : List Rm) : f_eqRmS (l, r) = decide (l = r) := rfl
def n1_RmS (x : Rm) : Nat := n_HdS x.kids + n_SfS x.things + n_LI x.tags
def n_RmS (l : List Rm) : Nat := l.length + cntL n1_RmS l
def okz_RmS (l : List Rm) : Prop := l.length ≤ ZM ∧ ∀ x ∈ l, okz_HdS x.kids ∧ okz_SfS x.things ∧ okz_LI x.tags
def okzz_RmS (x : List Rm × Int) : Prop := okz_RmS x.1 ∧ 0 ≤ x.2 ∧ x.2 ≤ LM
def eaz_RmS (x : List Rm × Int) : List Arg := [aT (eL 11 Rm.cs x.1), aI x.2]
def f_szRmS (x : List Rm × Int) : Int := if (n_RmS x.1 : Int) ≤ x.2 then x.2 - n_RmS x.1 else -1
noncomputable def e_szRmS : Ent := ent [] okzz_RmS eaz_RmS (erI 2) f_szRmS
theorem eaz_RmS_inj (x y : List Rm × Int) (h : eaz_RmS x = eaz_RmS y) : x = y := by
  simp only [eaz_RmS, aI, aT, List.cons.injEq, Prod.mk.injEq, true_and, and_true, C.tr.injEq, T.int.injEq] at h
  exact Prod.ext (eL_inj Rm.cs_inj h.1) h.2
theorem dm_szRmS {l : List Rm} {k : Int} (h : okzz_RmS (l, k)) : dom okzz_RmS eaz_RmS [(0, false, [C.tr false (T.arr 11 l.length (atL Rm.cs l))]), (0, false, [C.tr false (T.int IntKind.i64 k)])] = true := dom_ea (ea := eaz_RmS) (x := (l, k)) h
theorem iv_szRmS {l : List Rm} {k : Int} (h : okzz_RmS (l, k)) : inv okzz_RmS eaz_RmS [(0, false, [C.tr false (T.arr 11 l.length (atL Rm.cs l))]), (0, false, [C.tr false (T.int IntKind.i64 k)])] = (l, k) := inv_ea eaz_RmS_inj (x := (l, k)) h
theorem y_szRmS {l : List Rm} {k : Int} (h : (n_RmS l : Int) ≤ k) : f_szRmS (l, k) = k - n_RmS l := if_pos h
theorem n_szRmS {l : List Rm} {k : Int} (h : ¬ (n_RmS l : Int) ≤ k) : f_szRmS (l, k) = -1 := if_neg h
def i_szRmS : Nat := 49
noncomputable abbrev F_szRmS : Func := f49
def kp_szRmS : List (Nat × List Nat) := [(0, [0, 4]), (1, [0, 4]), (2, [0, 4, 44]), (3, [16]), (4, [0, 4, 20]), (5, [0, 4, 20, 60]), (6, [0, 4, 20]), (7, [0, 4, 20]), (8, [0, 4, 20, 100]), (9, [16]), (10, [16])]
def ts_szRmS : List Nat := [0, 0]
def st_szRmS_1 (l : List Rm) (k : Int) (x4 : Int) (x20 : Int) : St := [(0, ⟨z0, [(false, [.tr false (eL 11 Rm.cs l)])]⟩), (4, ⟨z0, [(false, [.tr true (T.int IntKind.i64 x4)])]⟩), (20, ⟨z0, [(false, [.tr true (T.int IntKind.i64 x20)])]⟩)]
def ex_szRmS_1_1 (l : List Rm) (k : Int) (x4 : Int) (x20 : Int) : St := [(16, ⟨z0, [(false, [.tr true (T.int IntKind.i64 (-1))])]⟩)]
def ex_szRmS_1_2 (l : List Rm) (k : Int) (x4 : Int) (x20 : Int) : St := [(0, ⟨z0, [(false, [.tr false (eL 11 Rm.cs l)])]⟩), (4, ⟨z0, [(false, [.tr true (T.int IntKind.i64 x4)])]⟩), (20, ⟨z0, [(false, [.tr true (T.int IntKind.i64 x20)])]⟩), (60, ⟨z0, []⟩)]
theorem round_szRmS_1 (l : List Rm) (k : Int) (x4 : Int) (x20 : Int) (n : Nat) (K : Ex → St → Res) : roundAt prog (tabS [(i_szRm, e_szRm)]) kp_szRmS F_szRmS [1, 1, 1, 0, 1, 0] n (st_szRmS_1 l k x4 x20) K = (
 bif decide (x20 < (↑l.length : Int)) then
  gd (decide (0 ≤ x20) && (x20.toNat.blt l.length && true)) <|
  gd (T.isI IntKind.i64 (atL Rm.cs l x20.toNat 0) && T.isI IntKind.i64 (atL Rm.cs l x20.toNat 1) &&
                  T.isI IntKind.i64 (atL Rm.cs l x20.toNat 2) &&
                T.isI IntKind.i64 (atL Rm.cs l x20.toNat 3) &&
              ((atL Rm.cs l x20.toNat 4).isArr && (atL Rm.cs l x20.toNat 4).wd.beq 2) &&
            T.isI IntKind.i64 (atL Rm.cs l x20.toNat 5) &&
          T.isI IntKind.i64 (atL Rm.cs l x20.toNat 6) &&
        (atL Rm.cs l x20.toNat 7).isB &&
      T.isI IntKind.i64 (atL Rm.cs l x20.toNat 8) &&
    ((atL Rm.cs l x20.toNat 9).isArr && (atL Rm.cs l x20.toNat 9).wd.beq 1) &&
  ((atL Rm.cs l x20.toNat 10).isArr && (atL Rm.cs l x20.toNat 10).wd.beq 1)) <|
  bif decide (IntKind.i64.wrap (x4 - (↑(atL Rm.cs l x20.toNat 4).ln : Int)) < 0) then
   K .ret (ex_szRmS_1_1 l k x4 x20)
  else
  bif decide (IntKind.i64.wrap (x4 - (↑(atL Rm.cs l x20.toNat 4).ln : Int)) < 0) then
   K .ret (ex_szRmS_1_1 l k x4 x20)
  else
  gd (dom okzz_SfS eaz_SfS
  [(0, false, [C.tr false (T.arr 1 (atL Rm.cs l x20.toNat 9).ln (atL Rm.cs l x20.toNat 9).fn)]),
    (0, false, [C.tr false (T.int IntKind.i64 (IntKind.i64.wrap (x4 - (↑(atL Rm.cs l x20.toNat 4).ln : Int))))])]) <|
  bif decide
  (f_szSfS
      (inv okzz_SfS eaz_SfS
        [(0, false, [C.tr false (T.arr 1 (atL Rm.cs l x20.toNat 9).ln (atL Rm.cs l x20.toNat 9).fn)]),
          (0, false,
            [C.tr false (T.int IntKind.i64 (IntKind.i64.wrap (x4 - (↑(atL Rm.cs l x20.toNat 4).ln : Int))))])]) <
    0) then
   K .ret (ex_szRmS_1_1 l k x4 x20)
  else
  bif decide
  (IntKind.i64.wrap
      (f_szSfS
          (inv okzz_SfS eaz_SfS
            [(0, false, [C.tr false (T.arr 1 (atL Rm.cs l x20.toNat 9).ln (atL Rm.cs l x20.toNat 9).fn)]),
              (0, false,
                [C.tr false (T.int IntKind.i64 (IntKind.i64.wrap (x4 - (↑(atL Rm.cs l x20.toNat 4).ln : Int))))])]) -
        (↑(atL Rm.cs l x20.toNat 10).ln : Int)) <
    0) then
   K .ret (ex_szRmS_1_1 l k x4 x20)
  else
  bif decide
  (IntKind.i64.wrap
      (f_szSfS
          (inv okzz_SfS eaz_SfS
            [(0, false, [C.tr false (T.arr 1 (atL Rm.cs l x20.toNat 9).ln (atL Rm.cs l x20.toNat 9).fn)]),
              (0, false,
                [C.tr false (T.int IntKind.i64 (IntKind.i64.wrap (x4 - (↑(atL Rm.cs l x20.toNat 4).ln : Int))))])]) -
        (↑(atL Rm.cs l x20.toNat 10).ln : Int)) <
    0) then
   K .ret (ex_szRmS_1_1 l k x4 x20)
  else
  bif decide
  (IntKind.i64.wrap
      (f_szSfS
          (inv okzz_SfS eaz_SfS
            [(0, false, [C.tr false (T.arr 1 (atL Rm.cs l x20.toNat 9).ln (atL Rm.cs l x20.toNat 9).fn)]),
              (0, false,
                [C.tr false (T.int IntKind.i64 (IntKind.i64.wrap (x4 - (↑(atL Rm.cs l x20.toNat 4).ln : Int))))])]) -
        (↑(atL Rm.cs l x20.toNat 10).ln : Int)) <
    0) then
   K .ret (ex_szRmS_1_1 l k x4 x20)
  else
  K .normal (st_szRmS_1 l k (IntKind.i64.wrap
  (f_szSfS
      (inv okzz_SfS eaz_SfS
        [(0, false, [C.tr false (T.arr 1 (atL Rm.cs l x20.toNat 9).ln (atL Rm.cs l x20.toNat 9).fn)]),
          (0, false,
            [C.tr false (T.int IntKind.i64 (IntKind.i64.wrap (x4 - (↑(atL Rm.cs l x20.toNat 4).ln : Int))))])]) -
    (↑(atL Rm.cs l x20.toNat 10).ln : Int))) (IntKind.i64.wrap (x20 + 1)))
 else
 K (.exit 0) (ex_szRmS_1_2 l k x4 x20)) := by kernel_rfl
theorem post_szRmS_1_1 (l : List Rm) (k : Int) (x4 : Int) (x20 : Int) (n : Nat) : contAt prog (tabS [(i_szRm, e_szRm)]) kp_szRmS F_szRmS ts_szRmS [1, 1, 1, 0, 1, 0] [] n .ret (ex_szRmS_1_1 l k x4 x20) = (
 some ([(false, [.tr true (T.int IntKind.i64 (-1))])], [(false, []), (false, [])])) := by kernel_rfl
theorem post_szRmS_1_2 (l : List Rm) (k : Int) (x4 : Int) (x20 : Int) (n : Nat) : contAt prog (tabS [(i_szRm, e_szRm)]) kp_szRmS F_szRmS ts_szRmS [1, 1, 1, 0, 1, 0] [] n (.exit 0) (ex_szRmS_1_2 l k x4 x20) = (
 some ([(false, [.tr true (T.int IntKind.i64 x4)])], [(false, []), (false, [])])) := by kernel_rfl
theorem pre_szRmS (l : List Rm) (k : Int) (n : Nat) : body prog (tabS [(i_szRm, e_szRm)]) kp_szRmS n F_szRmS [aT (eL 11 Rm.cs l), aI k] = (
 bif decide (IntKind.i64.wrap (k - (↑l.length : Int)) < 0) then
  some ([(false, [.tr true (T.int IntKind.i64 (-1))])], [(false, []), (false, [])])
 else
 loopAt prog (tabS [(i_szRm, e_szRm)]) kp_szRmS F_szRmS [1, 1, 1, 0, 1, 0] n n (st_szRmS_1 l k (IntKind.i64.wrap (k - (↑l.length : Int))) (0)) (contAt prog (tabS [(i_szRm, e_szRm)]) kp_szRmS F_szRmS ts_szRmS [1, 1, 1, 0, 1, 0] [] n)) := by kernel_rfl
theorem round1_szRmS (l : List Rm) (k : Int) (hl : okz_RmS l) {n : Nat} (i : Nat) (x : Rm) (K : Ex → St → Res) (hx : l[i]? = some x) (hr : (cntL n1_RmS (l.take i) : Int) ≤ k - (l.length : Int)) (hk1 : k ≤ LM) : roundAt prog (tabS [(i_szRm, e_szRm)]) kp_szRmS F_szRmS [1, 1, 1, 0, 1, 0] n (st_szRmS_1 l k (k - (l.length : Int) - cntL n1_RmS (l.take i)) (i : Nat)) K = bif decide (k - (l.length : Int) - cntL n1_RmS (l.take i) < n1_RmS x) then K .ret (ex_szRmS_1_1 l k (k - (l.length : Int) - cntL n1_RmS (l.take i)) (i : Nat)) else K .normal (st_szRmS_1 l k (k - (l.length : Int) - cntL n1_RmS (l.take (i + 1))) ((i + 1 : Nat) : Int)) := by
    have hzm := zm
    have hlm := lm
    have hl' : l.length ≤ ZM := hl.1
    have hi := (List.getElem?_eq_some_iff.1 hx).1
    have hxm : x ∈ l := List.mem_of_getElem? hx
    have hc := cntL_take n1_RmS l hx
    have hcx : n1_RmS x = x.kids.length + n_SfS x.things + x.tags.length := rfl
    rw [hc, round_szRmS_1]
    obtain ⟨k0, hk⟩ : ∃ k0, k0 = k - (l.length : Int) - (cntL n1_RmS (l.take i) : Int) := ⟨_, rfl⟩
    have hk2 : k - (l.length : Int) - ((cntL n1_RmS (l.take i) + n1_RmS x : Nat) : Int) = k0 - (x.kids.length : Int) - (n_SfS x.things : Int) - (x.tags.length : Int) := by omega
    rw [hk2, ← hk]
    have hk3 : 0 ≤ k0 := by omega
    have hk4 : k0 ≤ LM := by omega
    simp (disch := omega) only [lt_d, ge0_d, Int.toNat_natCast, blt_d, ble_self, beq_self, decide_true, cond_true, Bool.and_self, Bool.and_true, Bool.true_and, gd_true, Nat.zero_add, List.getD_cons_zero, List.getD_cons_succ, isI_int, toI_int, isB_bool, toB_bool, eL_T, arr_ln, arr_fn, arr_wd, arr_is, arr_get, hi, atL_of hx, Rm.cs, wrapS]
    have h0 : x.kids.length ≤ ZM := (hl.2 _ hxm).1
    have h1 : x.things.length ≤ ZM := ((hl.2 _ hxm).2.1).1
    have h2 : x.tags.length ≤ ZM := (hl.2 _ hxm).2.2
    try simp (disch := omega) only [wrapI]
    by_cases e0 : k0 - (x.kids.length : Int) < 0
    case pos =>
      rw [decide_eq_true e0, decide_eq_true (show k0 < (n1_RmS x : Int) by omega)]
      rfl
    simp (disch := omega) only [decide_eq_false e0, cond_false, wrapI]
    have g1 : okzz_SfS (x.things, k0 - (x.kids.length : Int)) := ⟨(hl.2 _ hxm).2.1, by dsimp only; omega, by dsimp only; omega⟩
    simp only [dm_szSfS g1, iv_szSfS g1, gd_true]
    by_cases e1 : (n_SfS x.things : Int) ≤ k0 - (x.kids.length : Int)
    case neg =>
      simp only [n_szSfS e1]
      rw [decide_eq_true (show (-1 : Int) < 0 by omega), decide_eq_true (show k0 < (n1_RmS x : Int) by omega)]
      rfl
    simp only [y_szSfS e1]
    simp (disch := omega) only [decide_eq_false (show ¬ k0 - (x.kids.length : Int) - (n_SfS x.things : Int) < 0 by omega), cond_false, wrapI]
    try simp (disch := omega) only [wrapI]
    by_cases e2 : k0 - (x.kids.length : Int) - (n_SfS x.things : Int) - (x.tags.length : Int) < 0
    case pos =>
      rw [decide_eq_true e2, decide_eq_true (show k0 < (n1_RmS x : Int) by omega)]
      rfl
    simp (disch := omega) only [decide_eq_false e2, cond_false, wrapI]
    rw [decide_eq_false (show ¬ k0 < (n1_RmS x : Int) by omega)]
    simp only [cond_false]
    try congr 2
    try omega
theorem body_szRmS (l : List Rm) (k : Int) (h : okzz_RmS (l, k)) : body prog (tabS [(i_szRm, e_szRm)]) kp_szRmS (l.length + 1) F_szRmS (eaz_RmS (l, k)) = some (erI 2 (f_szRmS (l, k))) := by
  obtain ⟨hl, hk0, hk1⟩ := h
  have hzm := zm
  have hlm := lm
  dsimp only at hl hk0 hk1
  have hl' : l.length ≤ ZM := hl.1
  have hn : n_RmS l = l.length + cntL n1_RmS l := rfl
  unfold eaz_RmS f_szRmS
  dsimp only
  rw [pre_szRmS]
  simp (disch := omega) only [wrapI]
  by_cases hs : k - (l.length : Int) < 0
  · rw [decide_eq_true hs, if_neg (by omega)]
    rfl
  · rw [decide_eq_false hs]
    simp only [cond_false]
    have hst : st_szRmS_1 l k (k - (l.length : Int)) 0 = (fun i : Nat => st_szRmS_1 l k (k - (l.length : Int) - cntL n1_RmS (l.take i)) (i : Nat)) 0 := by simp [cntL]
    rw [hst, szS n1_RmS l (k - (l.length : Int)) (by omega) (fun i : Nat => st_szRmS_1 l k (k - (l.length : Int) - cntL n1_RmS (l.take i)) (i : Nat)) (fun i : Nat => ex_szRmS_1_1 l k (k - (l.length : Int) - cntL n1_RmS (l.take i)) (i : Nat)) (ex_szRmS_1_2 l k (k - (l.length : Int) - cntL n1_RmS l) l.length) (fun i x K hx hr => ?_) (fun K hr => ?_) (fun i => post_szRmS_1_1 l k _ _ _) (post_szRmS_1_2 l k _ _ _) _ (Nat.le_refl _)]
    · by_cases hq : (cntL n1_RmS l : Int) ≤ k - (l.length : Int)
      · rw [if_pos hq, if_pos (by omega), show k - (l.length : Int) - (cntL n1_RmS l : Int) = k - (n_RmS l : Int) by omega]
        rfl
      · rw [if_neg hq, if_neg (by omega)]
        rfl
    · exact round1_szRmS l k hl i x K hx hr hk1
    · rw [round_szRmS_1]
      simp only [lt_d, Nat.lt_irrefl, decide_false, cond_false, List.take_length]
theorem s_szRmS : EntOk prog i_szRmS e_szRmS := ent_ok eaz_RmS_inj fun x hx =>
  body_sound (φ := (tabS [(i_szRm, e_szRm)])) (tabS_cons s_szRm tabS_nil) mixed (kp := kp_szRmS) (n := x.1.length + 1) func49 (c := bodyOf F_szRmS) (by kernel_rfl) (body_szRmS x.1 x.2 hx) (name_ok (by kernel_rfl))
end Go.Mach.F
namespace Go.Mach.F
open Go Go.Mach Go.Proofs.Try
--=set_option maxRecDepth 100000
theorem Ml.cs_inj (x y : Ml) (h : ∀ k, x.cs.getD k .hole = y.cs.getD k .hole) : x = y := by
  have h0 := h 0; have h1 := h 1; have h2 := h 2; have h3 := h 3; have h4 := h 4; have h5 := h 5; have h6 := h 6; have h7 := h 7
  rcases x with ⟨⟨x0, x1, x2, x3, x4, x5⟩, x6, x7⟩
  rcases y with ⟨⟨y0, y1, y2, y3, y4, y5⟩, y6, y7⟩
  simp only [Ml.cs, List.getD_cons_zero, List.getD_cons_succ, T.int.injEq, T.bool.injEq, true_and] at h0 h1 h2 h3 h4 h5 h6 h7
  replace h6 := eL_inj Rm.cs_inj h6
  replace h7 := eI_inj h7
  subst h0; subst h1; subst h2; subst h3; subst h4; subst h5; subst h6; subst h7
  rfl
theorem Rm.cs_ext {x y : Rm} (h : x.cs = y.cs) : x = y := Rm.cs_inj x y fun k => by rw [h]
theorem Ml.cs_ext {x y : Ml} (h : x.cs = y.cs) : x = y := Ml.cs_inj x y fun k => by rw [h]
abbrev shSf : List Sh := [.arr [.int .u8]]
def z_Sf (x : Sf) : Prop := okz_LB x.b
theorem sh_Sf {ts : List T} (hh : ShTs ts shSf) : ∃ x : Sf, ts = x.cs ∧ z_Sf x := by
  obtain ⟨t0, ts, rfl, h0, hh⟩ := shs_cons hh
  obtain rfl := shs_nil hh
  obtain ⟨x0, rfl, z0⟩ := sh_LB h0
  exact ⟨⟨x0⟩, rfl, z0⟩
theorem sh_SfS {t : T} (h : ShT t (.arr shSf)) : ∃ l : List Sf, t = eL 1 Sf.cs l ∧ l.length ≤ ZM ∧ ∀ x ∈ l, z_Sf x := sh_list z_Sf (fun _ => rfl) (fun _ hts => sh_Sf hts) h
abbrev shRm : List Sh := [.int .i64, .int .i64, .int .i64, .int .i64, .arr shHd, .int .i64, .int .i64, .bool, .int .i64, .arr shSf, .arr [.int .i64]]
def z_Rm (x : Rm) : Prop := okz_HdS x.kids ∧ okz_SfS x.things ∧ okz_LI x.tags
theorem sh_Rm {ts : List T} (hh : ShTs ts shRm) : ∃ x : Rm, ts = x.cs ∧ z_Rm x := by
  obtain ⟨t0, ts, rfl, h0, hh⟩ := shs_cons hh
  obtain ⟨t1, ts, rfl, h1, hh⟩ := shs_cons hh
  obtain ⟨t2, ts, rfl, h2, hh⟩ := shs_cons hh
  obtain ⟨t3, ts, rfl, h3, hh⟩ := shs_cons hh
  obtain ⟨t4, ts, rfl, h4, hh⟩ := shs_cons hh
  obtain ⟨t5, ts, rfl, h5, hh⟩ := shs_cons hh
  obtain ⟨t6, ts, rfl, h6, hh⟩ := shs_cons hh
  obtain ⟨t7, ts, rfl, h7, hh⟩ := shs_cons hh
  obtain ⟨t8, ts, rfl, h8, hh⟩ := shs_cons hh
  obtain ⟨t9, ts, rfl, h9, hh⟩ := shs_cons hh
  obtain ⟨t10, ts, rfl, h10, hh⟩ := shs_cons hh
  obtain rfl := shs_nil hh
  obtain ⟨x0, rfl, _⟩ := sh_int h0
  obtain ⟨x1, rfl, _⟩ := sh_int h1
  obtain ⟨x2, rfl, _⟩ := sh_int h2
  obtain ⟨x3, rfl, _⟩ := sh_int h3
  obtain ⟨x4, rfl, z4, _⟩ := sh_HdS h4
  obtain ⟨x5, rfl, _⟩ := sh_int h5
  obtain ⟨x6, rfl, _⟩ := sh_int h6
  obtain ⟨x7, rfl⟩ := sh_bool h7
  obtain ⟨x8, rfl, _⟩ := sh_int h8
  obtain ⟨x9, rfl, z9, y9⟩ := sh_SfS h9
  obtain ⟨x10, rfl, z10⟩ := sh_LI h10
  exact ⟨⟨⟨x0, x1⟩, ⟨x2, x3⟩, x4, x5, x6, x7, x8, x9, x10⟩, rfl, ⟨z4, ⟨z9, y9⟩, z10⟩⟩
theorem sh_RmS {t : T} (h : ShT t (.arr shRm)) : ∃ l : List Rm, t = eL 11 Rm.cs l ∧ l.length ≤ ZM ∧ ∀ x ∈ l, z_Rm x := sh_list z_Rm (fun _ => rfl) (fun _ hts => sh_Rm hts) h
abbrev shMl : List Sh := [.int .i64, .int .i64, .int .i64, .int .i64, .int .i64, .int .i64, .arr shRm, .arr [.int .i64]]
def z_Ml (x : Ml) : Prop := okz_RmS x.rooms ∧ okz_LI x.log
theorem sh_Ml {ts : List T} (hh : ShTs ts shMl) : ∃ x : Ml, ts = x.cs ∧ z_Ml x := by
  obtain ⟨t0, ts, rfl, h0, hh⟩ := shs_cons hh
  obtain ⟨t1, ts, rfl, h1, hh⟩ := shs_cons hh
  obtain ⟨t2, ts, rfl, h2, hh⟩ := shs_cons hh
  obtain ⟨t3, ts, rfl, h3, hh⟩ := shs_cons hh
  obtain ⟨t4, ts, rfl, h4, hh⟩ := shs_cons hh
  obtain ⟨t5, ts, rfl, h5, hh⟩ := shs_cons hh
  obtain ⟨t6, ts, rfl, h6, hh⟩ := shs_cons hh
  obtain ⟨t7, ts, rfl, h7, hh⟩ := shs_cons hh
  obtain rfl := shs_nil hh
  obtain ⟨x0, rfl, _⟩ := sh_int h0
  obtain ⟨x1, rfl, _⟩ := sh_int h1
  obtain ⟨x2, rfl, _⟩ := sh_int h2
  obtain ⟨x3, rfl, _⟩ := sh_int h3
  obtain ⟨x4, rfl, _⟩ := sh_int h4
  obtain ⟨x5, rfl, _⟩ := sh_int h5
  obtain ⟨x6, rfl, z6, y6⟩ := sh_RmS h6
  obtain ⟨x7, rfl, z7⟩ := sh_LI h7
  exact ⟨⟨⟨x0, x1, x2, x3, x4, x5⟩, x6, x7⟩, rfl, ⟨⟨z6, y6⟩, z7⟩⟩
def ok_EqMl (x : Ml × Ml) : Prop := okq_RmS x.1.rooms ∧ okq_LI x.1.log
def ea_EqMl (x : Ml × Ml) : List Arg := [aR x.1.cs, aR x.2.cs]
def f_EqMl (x : Ml × Ml) : Bool := decide (x.1 = x.2)
noncomputable def e_EqMl : Ent := ent [] ok_EqMl ea_EqMl (erB 2) f_EqMl
theorem ea_EqMl_inj (x y : Ml × Ml) (h : ea_EqMl x = ea_EqMl y) : x = y := by
  obtain ⟨l1, r1⟩ := x
  obtain ⟨l2, r2⟩ := y
  simp only [ea_EqMl, List.cons.injEq, and_true, true_and] at h
  obtain ⟨e0, e1⟩ := h
  obtain rfl := Ml.cs_ext (aR_inj e0)
  obtain rfl := Ml.cs_ext (aR_inj e1)
  rfl
theorem dm_EqMl {l : Ml} {r : Ml} (h : ok_EqMl (l, r)) : dom ok_EqMl ea_EqMl [(0, true, [C.tr false (T.int IntKind.i64 l.c.chunks), C.tr false (T.int IntKind.i64 l.c.size), C.tr false (T.int IntKind.i64 l.c.slots), C.tr false (T.int IntKind.i64 l.c.tax), C.tr false (T.int IntKind.i64 l.c.slice), C.tr false (T.int IntKind.i64 l.c.gens), C.tr false (T.arr 11 l.rooms.length (atL Rm.cs l.rooms)), C.tr false (T.arr 1 l.log.length (atL rowI l.log))]), (0, true, [C.tr false (T.int IntKind.i64 r.c.chunks), C.tr false (T.int IntKind.i64 r.c.size), C.tr false (T.int IntKind.i64 r.c.slots), C.tr false (T.int IntKind.i64 r.c.tax), C.tr false (T.int IntKind.i64 r.c.slice), C.tr false (T.int IntKind.i64 r.c.gens), C.tr false (T.arr 11 r.rooms.length (atL Rm.cs r.rooms)), C.tr false (T.arr 1 r.log.length (atL rowI r.log))])] = true := dom_ea (ea := ea_EqMl) (x := (l, r)) h
theorem iv_EqMl {l : Ml} {r : Ml} (h : ok_EqMl (l, r)) : inv ok_EqMl ea_EqMl [(0, true, [C.tr false (T.int IntKind.i64 l.c.chunks), C.tr false (T.int IntKind.i64 l.c.size), C.tr false (T.int IntKind.i64 l.c.slots), C.tr false (T.int IntKind.i64 l.c.tax), C.tr false (T.int IntKind.i64 l.c.slice), C.tr false (T.int IntKind.i64 l.c.gens), C.tr false (T.arr 11 l.rooms.length (atL Rm.cs l.rooms)), C.tr false (T.arr 1 l.log.length (atL rowI l.log))]), (0, true, [C.tr false (T.int IntKind.i64 r.c.chunks), C.tr false (T.int IntKind.i64 r.c.size), C.tr false (T.int IntKind.i64 r.c.slots), C.tr false (T.int IntKind.i64 r.c.tax), C.tr false (T.int IntKind.i64 r.c.slice), C.tr false (T.int IntKind.i64 r.c.gens), C.tr false (T.arr 11 r.rooms.length (atL Rm.cs r.rooms)), C.tr false (T.arr 1 r.log.length (atL rowI r.log))])] = (l, r) := inv_ea ea_EqMl_inj (x := (l, r)) h
theorem d_EqMl (l : Ml) (r : Ml) : f_EqMl (l, r) = decide (l = r) := rfl
def i_EqMl : Nat := 17
noncomputable abbrev F_EqMl : Func := f17
def kp_EqMl : List (Nat × List Nat) := [(0, [8, 9, 12, 13]), (1, [8, 9, 12, 13, 40]), (2, [16]), (3, [8, 9, 12, 13, 64]), (4, [16]), (5, [88]), (6, [16]), (7, [16])]
theorem pre_EqMl (l : Ml) (r : Ml) (n : Nat) : body prog (tabS [(i_eqCf, e_eqCf), (i_eqRmS, e_eqRmS), (i_eqLI, e_eqLI)]) kp_EqMl n F_EqMl [aR l.cs, aR r.cs] = (
 bif l.c.1 != r.c.1 then
  some ([(false, [.tr true (T.bool false)])], [(false, []), (false, [])])
 else
 bif l.c.2 != r.c.2 then
  some ([(false, [.tr true (T.bool false)])], [(false, []), (false, [])])
 else
 bif l.c.3 != r.c.3 then
  some ([(false, [.tr true (T.bool false)])], [(false, []), (false, [])])
 else
 bif l.c.4 != r.c.4 then
  some ([(false, [.tr true (T.bool false)])], [(false, []), (false, [])])
 else
 bif l.c.5 != r.c.5 then
  some ([(false, [.tr true (T.bool false)])], [(false, []), (false, [])])
 else
 bif l.c.6 != r.c.6 then
  some ([(false, [.tr true (T.bool false)])], [(false, []), (false, [])])
 else
 gd (dom ok2_RmS ea2_RmS [(0, false, [C.tr false (eL 11 Rm.cs l.2)]), (0, false, [C.tr false (eL 11 Rm.cs r.2)])]) <|
 bif !f_eqRmS
    (inv ok2_RmS ea2_RmS [(0, false, [C.tr false (eL 11 Rm.cs l.2)]), (0, false, [C.tr false (eL 11 Rm.cs r.2)])]) then
  some ([(false, [.tr true (T.bool false)])], [(false, []), (false, [])])
 else
 gd (dom ok2_LI ea2_LI [(0, false, [C.tr false (eL 1 rowI l.3)]), (0, false, [C.tr false (eL 1 rowI r.3)])]) <|
 bif !f_eqLI (inv ok2_LI ea2_LI [(0, false, [C.tr false (eL 1 rowI l.3)]), (0, false, [C.tr false (eL 1 rowI r.3)])]) then
  some ([(false, [.tr true (T.bool false)])], [(false, []), (false, [])])
 else
 some ([(false, [.tr true (T.bool true)])], [(false, []), (false, [])])) := by kernel_rfl
theorem body_EqMl (l : Ml) (r : Ml) (n : Nat) (h : ok_EqMl (l, r)) : body prog (tabS [(i_eqCf, e_eqCf), (i_eqRmS, e_eqRmS), (i_eqLI, e_eqLI)]) kp_EqMl n F_EqMl (ea_EqMl (l, r)) = some (erB 2 (f_EqMl (l, r))) := by
  have h0 : okq_RmS l.rooms := h.1
  have h1 : okq_LI l.log := h.2
  unfold ea_EqMl f_EqMl
  try dsimp only
  rw [pre_EqMl]
  simp only [lt_d, ge0_d, Int.toNat_natCast, blt_d, ble_self, beq_self, decide_true, cond_true, Bool.and_self, Bool.and_true, Bool.true_and, gd_true, Nat.zero_add, List.getD_cons_zero, List.getD_cons_succ, isI_int, toI_int, isB_bool, toB_bool, eL_T, arr_ln, arr_fn, arr_wd, arr_is, arr_get, Ml.cs, int_ne, bool_ne, bool_eq, dm_eqRmS h0, iv_eqRmS h0, d_eqRmS, dm_eqLI h1, iv_eqLI h1, d_eqLI, chain]
  have hxy : (l.c.chunks = r.c.chunks ∧ l.c.size = r.c.size ∧ l.c.slots = r.c.slots ∧ l.c.tax = r.c.tax ∧ l.c.slice = r.c.slice ∧ l.c.gens = r.c.gens ∧ l.rooms = r.rooms ∧ l.log = r.log) ↔ l = r := by
    rcases l with ⟨⟨x0, x1, x2, x3, x4, x5⟩, x6, x7⟩
    rcases r with ⟨⟨y0, y1, y2, y3, y4, y5⟩, y6, y7⟩
    simp [and_assoc]
  simp only [hxy]
  by_cases e : l = r
  · simp only [e, decide_true, Bool.not_true, cond_false]
    rfl
  · simp only [e, decide_false, Bool.not_false, cond_true]
    rfl
theorem s_EqMl : EntOk prog i_EqMl e_EqMl := ent_ok ea_EqMl_inj fun x hx =>
  body_sound (φ := (tabS [(i_eqCf, e_eqCf), (i_eqRmS, e_eqRmS), (i_eqLI, e_eqLI)])) (tabS_cons s_eqCf (tabS_cons s_eqRmS (tabS_cons s_eqLI tabS_nil))) mixed (kp := kp_EqMl) (n := 0) func17 (c := bodyOf F_EqMl) (by kernel_rfl) (body_EqMl x.1 x.2 (0) hx) (name_ok (by kernel_rfl))
end Go.Mach.F
namespace Go.Mach.F
open Go Go.Mach Go.Proofs.Try
--=set_option maxRecDepth 100000
theorem cntL_mem {α : Type} (c : α → Nat) {x : α} : ∀ {l : List α}, x ∈ l → c x ≤ cntL c l
  | y :: l, h => by
    rcases List.mem_cons.1 h with rfl | h
    · unfold cntL; omega
    · have := cntL_mem c h
      unfold cntL
      omega
theorem okn_LI {l : List Int} (h : (n_LI l : Int) ≤ 1048576) : ok_LI l ∧ okq_LI l := by
  have := lm
  have := bm
  unfold n_LI at h
  exact ⟨by unfold ok_LI; omega, by unfold okq_LI; omega⟩
theorem okn_LB {l : List UInt8} (h : (n_LB l : Int) ≤ 1048576) : ok_LB l ∧ okq_LB l := by
  have := lm
  have := bm
  unfold n_LB at h
  exact ⟨by unfold ok_LB; omega, by unfold okq_LB; omega⟩
theorem okn_HdS {l : List Hd} (h : (n_HdS l : Int) ≤ 1048576) : ok_HdS l ∧ okq_HdS l := by
  have := lm
  have := bm
  unfold n_HdS at h
  exact ⟨⟨by omega, fun _ _ => trivial⟩, ⟨by omega, fun _ _ => trivial⟩⟩
theorem okn_SfS {l : List Sf} (h : (n_SfS l : Int) ≤ 1048576) : ok_SfS l ∧ okq_SfS l := by
  have := lm
  have := bm
  have e : n_SfS l = l.length + cntL n1_SfS l := rfl
  exact ⟨⟨by omega, fun x hx => (okn_LB (l := x.b) (by have := cntL_mem n1_SfS hx; have : n1_SfS x = n_LB x.b := rfl; omega)).1⟩, ⟨by omega, fun x hx => (okn_LB (l := x.b) (by have := cntL_mem n1_SfS hx; have : n1_SfS x = n_LB x.b := rfl; omega)).2⟩⟩
theorem okn_RmS {l : List Rm} (h : (n_RmS l : Int) ≤ 1048576) : ok_RmS l ∧ okq_RmS l := by
  have := lm
  have := bm
  have e : n_RmS l = l.length + cntL n1_RmS l := rfl
  exact ⟨⟨by omega, fun x hx => ⟨(okn_HdS (l := x.kids) (by have := cntL_mem n1_RmS hx; have : n1_RmS x = n_HdS x.kids + n_SfS x.things + n_LI x.tags := rfl; omega)).1, (okn_SfS (l := x.things) (by have := cntL_mem n1_RmS hx; have : n1_RmS x = n_HdS x.kids + n_SfS x.things + n_LI x.tags := rfl; omega)).1, (okn_LI (l := x.tags) (by have := cntL_mem n1_RmS hx; have : n1_RmS x = n_HdS x.kids + n_SfS x.things + n_LI x.tags := rfl; omega)).1⟩⟩, ⟨by omega, fun x hx => ⟨(okn_HdS (l := x.kids) (by have := cntL_mem n1_RmS hx; have : n1_RmS x = n_HdS x.kids + n_SfS x.things + n_LI x.tags := rfl; omega)).2, (okn_SfS (l := x.things) (by have := cntL_mem n1_RmS hx; have : n1_RmS x = n_HdS x.kids + n_SfS x.things + n_LI x.tags := rfl; omega)).2, (okn_LI (l := x.tags) (by have := cntL_mem n1_RmS hx; have : n1_RmS x = n_HdS x.kids + n_SfS x.things + n_LI x.tags := rfl; omega)).2⟩⟩⟩
end Go.Mach.F
namespace Go.Mach.F
open Go Go.Mach Go.Proofs.Try
--=set_option maxRecDepth 100000
def i_RoomOf1 : Nat := 168
noncomputable abbrev F_RoomOf1 : Func := f168
def kp_RoomOf1 : List (Nat × List Nat) := [(0, [4, 8, 9]), (1, [12])]
noncomputable def e_RoomOf1 : Ent := inl [0, 0] prog (tabS []) kp_RoomOf1 0 F_RoomOf1
theorem s_RoomOf1 : EntOk prog i_RoomOf1 e_RoomOf1 := inl_ok tabS_nil mixed (c := bodyOf F_RoomOf1) func168 (by kernel_rfl) (name_ok (by kernel_rfl))
def rof (l : List Rm) (h : Hd) : Int := match (List.range l.length).find? (fun i => decide (l[i]?.map Rm.h = some h)) with
  | some i => (i : Int)
  | none => -1
theorem hd_eq (x : Rm) (h : Hd) : (decide (x.h.slot = h.slot ∧ x.h.gen = h.gen)) = decide (some x.h = some h) := by
  refine decide_eq_decide.2 ?_
  rcases x with ⟨⟨_, _⟩, _⟩
  rcases h with ⟨_, _⟩
  simp
def ok_ixRm (x : List Rm × Hd) : Prop := x.1.length ≤ LM
def ea_ixRm (x : List Rm × Hd) : List Arg := [aT (eL 11 Rm.cs x.1), aF i_RoomOf1 x.2.cs]
def f_ixRm (x : List Rm × Hd) : Int := rof x.1 x.2
noncomputable def e_ixRm : Ent := ent [] ok_ixRm ea_ixRm (erI 2) f_ixRm
theorem ea_ixRm_inj (x y : List Rm × Hd) (h : ea_ixRm x = ea_ixRm y) : x = y := by
  obtain ⟨l1, h1⟩ := x
  obtain ⟨l2, h2⟩ := y
  simp only [ea_ixRm, List.cons.injEq, and_true, true_and] at h
  obtain ⟨e0, e1⟩ := h
  obtain rfl := eL_inj Rm.cs_inj (aT_inj e0)
  obtain rfl := Hd.cs_ext (aF_inj (by rfl) e1)
  rfl
theorem dm_ixRm {l : List Rm} {h : Hd} (h0 : ok_ixRm (l, h)) : dom ok_ixRm ea_ixRm [(0, false, [C.tr false (T.arr 11 l.length (atL Rm.cs l))]), (0, false, [C.fn 168 [Pt.pim 2 (pimF [T.int IntKind.i64 h.slot, T.int IntKind.i64 h.gen])]])] = true := dom_ea (ea := ea_ixRm) (x := (l, h)) h0
theorem iv_ixRm {l : List Rm} {h : Hd} (h0 : ok_ixRm (l, h)) : inv ok_ixRm ea_ixRm [(0, false, [C.tr false (T.arr 11 l.length (atL Rm.cs l))]), (0, false, [C.fn 168 [Pt.pim 2 (pimF [T.int IntKind.i64 h.slot, T.int IntKind.i64 h.gen])]])] = (l, h) := inv_ea ea_ixRm_inj (x := (l, h)) h0
theorem d_ixRm (l : List Rm) (h : Hd) : f_ixRm (l, h) = rof l h := rfl
def i_ixRm : Nat := 117
noncomputable abbrev F_ixRm : Func := f117
def kp_ixRm : List (Nat × List Nat) := [(0, [0, 4]), (1, [0, 4, 28, 32]), (2, [0, 4, 28, 32, 36]), (3, [0, 4, 20, 28, 32]), (4, [0, 4, 20, 28, 32, 64]), (5, [16]), (6, [0, 4, 28, 32]), (7, [16])]
def ts_ixRm : List Nat := [0, 0]
def st_ixRm_1 (l : List Rm) (h : Hd) (x32 : Int) : St := [(0, ⟨z0, [(false, [.tr false (eL 11 Rm.cs l)])]⟩), (4, ⟨z0, [(false, [(C.fn 168
  [Pt.pim [T.int IntKind.i64 h.1, T.int IntKind.i64 h.2].length
      (pimF [T.int IntKind.i64 h.1, T.int IntKind.i64 h.2])])])]⟩), (28, ⟨z0, [(false, [.tr true (T.int IntKind.i64 (↑l.length : Int))])]⟩), (32, ⟨z0, [(false, [.tr true (T.int IntKind.i64 x32)])]⟩)]
def ex_ixRm_1_1 (l : List Rm) (h : Hd) (x32 : Int) : St := [(16, ⟨z0, [(false, [.tr true (T.int IntKind.i64 x32)])]⟩)]
def ex_ixRm_1_2 (l : List Rm) (h : Hd) (x32 : Int) : St := [(0, ⟨z0, [(false, [.tr false (eL 11 Rm.cs l)])]⟩), (4, ⟨z0, [(false, [(C.fn 168
  [Pt.pim [T.int IntKind.i64 h.1, T.int IntKind.i64 h.2].length
      (pimF [T.int IntKind.i64 h.1, T.int IntKind.i64 h.2])])])]⟩), (28, ⟨z0, [(false, [.tr true (T.int IntKind.i64 (↑l.length : Int))])]⟩), (32, ⟨z0, [(false, [.tr true (T.int IntKind.i64 x32)])]⟩), (36, ⟨z0, []⟩)]
theorem round_ixRm_1 (l : List Rm) (h : Hd) (x32 : Int) (n : Nat) (K : Ex → St → Res) : roundAt prog (tabS [(i_RoomOf1, e_RoomOf1)]) kp_ixRm F_ixRm [1, 0, 1, 0] n (st_ixRm_1 l h x32) K = (
 bif decide (x32 < (↑l.length : Int)) then
  gd (decide (0 ≤ x32) && (x32.toNat.blt l.length && true)) <|
  gd (T.isI IntKind.i64 (atL Rm.cs l x32.toNat 0) && T.isI IntKind.i64 (atL Rm.cs l x32.toNat 1) &&
                  T.isI IntKind.i64 (atL Rm.cs l x32.toNat 2) &&
                T.isI IntKind.i64 (atL Rm.cs l x32.toNat 3) &&
              ((atL Rm.cs l x32.toNat 4).isArr && (atL Rm.cs l x32.toNat 4).wd.beq 2) &&
            T.isI IntKind.i64 (atL Rm.cs l x32.toNat 5) &&
          T.isI IntKind.i64 (atL Rm.cs l x32.toNat 6) &&
        (atL Rm.cs l x32.toNat 7).isB &&
      T.isI IntKind.i64 (atL Rm.cs l x32.toNat 8) &&
    ((atL Rm.cs l x32.toNat 9).isArr && (atL Rm.cs l x32.toNat 9).wd.beq 1) &&
  ((atL Rm.cs l x32.toNat 10).isArr && (atL Rm.cs l x32.toNat 10).wd.beq 1)) <|
  bif bif (atL Rm.cs l x32.toNat 0).toI == (T.int IntKind.i64 h.1).toI then
  bif (atL Rm.cs l x32.toNat 1).toI == (T.int IntKind.i64 h.2).toI then true else false
else false then
   K .ret (ex_ixRm_1_1 l h x32)
  else
  K .normal (st_ixRm_1 l h (IntKind.i64.wrap (x32 + 1)))
 else
 K (.exit 0) (ex_ixRm_1_2 l h x32)) := by kernel_rfl
theorem post_ixRm_1_1 (l : List Rm) (h : Hd) (x32 : Int) (n : Nat) : contAt prog (tabS [(i_RoomOf1, e_RoomOf1)]) kp_ixRm F_ixRm ts_ixRm [1, 0, 1, 0] [] n .ret (ex_ixRm_1_1 l h x32) = (
 some ([(false, [.tr true (T.int IntKind.i64 x32)])], [(false, []), (false, [])])) := by kernel_rfl
theorem post_ixRm_1_2 (l : List Rm) (h : Hd) (x32 : Int) (n : Nat) : contAt prog (tabS [(i_RoomOf1, e_RoomOf1)]) kp_ixRm F_ixRm ts_ixRm [1, 0, 1, 0] [] n (.exit 0) (ex_ixRm_1_2 l h x32) = (
 some ([(false, [.tr true (T.int IntKind.i64 (-1))])], [(false, []), (false, [])])) := by kernel_rfl
theorem pre_ixRm (l : List Rm) (h : Hd) (n : Nat) : body prog (tabS [(i_RoomOf1, e_RoomOf1)]) kp_ixRm n F_ixRm [aT (eL 11 Rm.cs l), aF i_RoomOf1 h.cs] = (
 loopAt prog (tabS [(i_RoomOf1, e_RoomOf1)]) kp_ixRm F_ixRm [1, 0, 1, 0] n n (st_ixRm_1 l h (0)) (contAt prog (tabS [(i_RoomOf1, e_RoomOf1)]) kp_ixRm F_ixRm ts_ixRm [1, 0, 1, 0] [] n)) := by kernel_rfl
theorem body_ixRm (l : List Rm) (h : Hd) (h0 : ok_ixRm (l, h)) : body prog (tabS [(i_RoomOf1, e_RoomOf1)]) kp_ixRm (l.length + 1) F_ixRm (ea_ixRm (l, h)) = some (erI 2 (f_ixRm (l, h))) := by
  have hlm := lm
  have hl : l.length ≤ LM := h0
  unfold ea_ixRm f_ixRm
  try dsimp only
  rw [pre_ixRm]
  have hst : st_ixRm_1 l h 0 = (fun i : Nat => st_ixRm_1 l h (i : Nat)) 0 := rfl
  rw [hst, forExit l.length (fun i : Nat => st_ixRm_1 l h (i : Nat)) (ex_ixRm_1_2 l h l.length) 0 (fun i => decide (l[i]?.map Rm.h = some h)) .ret (fun e => by cases e) (fun i : Nat => ex_ixRm_1_1 l h (i : Nat)) (fun i K hi => ?_) (fun K => ?_) _ (Nat.le_refl _)]
  · unfold rof
    cases (List.range l.length).find? (fun i => decide (l[i]?.map Rm.h = some h)) with
    | none => exact (post_ixRm_1_2 l h _ _).trans rfl
    | some i => exact (post_ixRm_1_1 l h _ _).trans rfl
  · have hx := List.getElem?_eq_getElem hi
    rw [round_ixRm_1]
    simp (disch := omega) only [lt_d, ge0_d, Int.toNat_natCast, blt_d, ble_self, beq_self, decide_true, cond_true, Bool.and_self, Bool.and_true, Bool.true_and, gd_true, Nat.zero_add, List.getD_cons_zero, List.getD_cons_succ, isI_int, toI_int, isB_bool, toB_bool, eL_T, arr_ln, arr_fn, arr_wd, arr_is, arr_get, hi, atL_of hx, hx, Option.map_some, Rm.cs, wrapS, int_eq, cond_tf, cond_bf, Bool.and_true, dec_and, hd_eq]
  · rw [round_ixRm_1]
    simp only [lt_d, Nat.lt_irrefl, decide_false, cond_false]
theorem s_ixRm : EntOk prog i_ixRm e_ixRm := ent_ok ea_ixRm_inj fun x hx =>
  body_sound (φ := (tabS [(i_RoomOf1, e_RoomOf1)])) (tabS_cons s_RoomOf1 tabS_nil) mixed (kp := kp_ixRm) (n := x.1.length + 1) func117 (c := bodyOf F_ixRm) (by kernel_rfl) (body_ixRm x.1 x.2 hx) (name_ok (by kernel_rfl))
def ok_sRoomOf (x : Ml × Hd) : Prop := x.1.rooms.length ≤ LM
def ea_sRoomOf (x : Ml × Hd) : List Arg := [aR x.1.cs, aR x.2.cs]
def f_sRoomOf (x : Ml × Hd) : Int := rof x.1.rooms x.2
noncomputable def e_sRoomOf : Ent := ent [] ok_sRoomOf ea_sRoomOf (erI 2) f_sRoomOf
theorem ea_sRoomOf_inj (x y : Ml × Hd) (h : ea_sRoomOf x = ea_sRoomOf y) : x = y := by
  obtain ⟨m1, h1⟩ := x
  obtain ⟨m2, h2⟩ := y
  simp only [ea_sRoomOf, List.cons.injEq, and_true, true_and] at h
  obtain ⟨e0, e1⟩ := h
  obtain rfl := Ml.cs_ext (aR_inj e0)
  obtain rfl := Hd.cs_ext (aR_inj e1)
  rfl
theorem dm_sRoomOf {m : Ml} {h : Hd} (h0 : ok_sRoomOf (m, h)) : dom ok_sRoomOf ea_sRoomOf [(0, true, [C.tr false (T.int IntKind.i64 m.c.chunks), C.tr false (T.int IntKind.i64 m.c.size), C.tr false (T.int IntKind.i64 m.c.slots), C.tr false (T.int IntKind.i64 m.c.tax), C.tr false (T.int IntKind.i64 m.c.slice), C.tr false (T.int IntKind.i64 m.c.gens), C.tr false (T.arr 11 m.rooms.length (atL Rm.cs m.rooms)), C.tr false (T.arr 1 m.log.length (atL rowI m.log))]), (0, true, [C.tr false (T.int IntKind.i64 h.slot), C.tr false (T.int IntKind.i64 h.gen)])] = true := dom_ea (ea := ea_sRoomOf) (x := (m, h)) h0
theorem iv_sRoomOf {m : Ml} {h : Hd} (h0 : ok_sRoomOf (m, h)) : inv ok_sRoomOf ea_sRoomOf [(0, true, [C.tr false (T.int IntKind.i64 m.c.chunks), C.tr false (T.int IntKind.i64 m.c.size), C.tr false (T.int IntKind.i64 m.c.slots), C.tr false (T.int IntKind.i64 m.c.tax), C.tr false (T.int IntKind.i64 m.c.slice), C.tr false (T.int IntKind.i64 m.c.gens), C.tr false (T.arr 11 m.rooms.length (atL Rm.cs m.rooms)), C.tr false (T.arr 1 m.log.length (atL rowI m.log))]), (0, true, [C.tr false (T.int IntKind.i64 h.slot), C.tr false (T.int IntKind.i64 h.gen)])] = (m, h) := inv_ea ea_sRoomOf_inj (x := (m, h)) h0
theorem d_sRoomOf (m : Ml) (h : Hd) : f_sRoomOf (m, h) = rof m.rooms h := rfl
def i_sRoomOf : Nat := 123
noncomputable abbrev F_sRoomOf : Func := f123
def kp_sRoomOf : List (Nat × List Nat) := [(0, [8, 9, 12, 13]), (1, [8, 9, 12, 13, 20]), (2, [8, 9, 12, 13, 20, 40]), (3, [8, 9, 12, 13, 20]), (4, [8, 9, 12, 13, 20, 80]), (5, [16]), (6, [16])]
def ts_sRoomOf : List Nat := [0, 0]
def st_sRoomOf_1 (m : Ml) (h : Hd) (x20 : Int) : St := [(8, ⟨z0, [(false, [(C.pt (Pt.ptr 9 0 [] 8 0 0))])]⟩), (9, ⟨z0, [(true, [.tr true (T.int IntKind.i64 m.c.1), .tr true (T.int IntKind.i64 m.c.2), .tr true (T.int IntKind.i64 m.c.3), .tr true (T.int IntKind.i64 m.c.4), .tr true (T.int IntKind.i64 m.c.5), .tr true (T.int IntKind.i64 m.c.6), .tr false (eL 11 Rm.cs m.2), .tr false (eL 1 rowI m.3)])]⟩), (12, ⟨z0, [(false, [(C.pt (Pt.ptr 13 0 [] 2 0 0))])]⟩), (13, ⟨z0, [(true, [.tr true (T.int IntKind.i64 h.1), .tr true (T.int IntKind.i64 h.2)])]⟩), (20, ⟨z0, [(false, [.tr true (T.int IntKind.i64 x20)])]⟩)]
def ex_sRoomOf_1_1 (m : Ml) (h : Hd) (x20 : Int) : St := [(16, ⟨z0, [(false, [.tr true (T.int IntKind.i64 x20)])]⟩)]
def ex_sRoomOf_1_2 (m : Ml) (h : Hd) (x20 : Int) : St := [(8, ⟨z0, [(false, [(C.pt (Pt.ptr 9 0 [] 8 0 0))])]⟩), (9, ⟨z0, [(true, [.tr true (T.int IntKind.i64 m.c.1), .tr true (T.int IntKind.i64 m.c.2), .tr true (T.int IntKind.i64 m.c.3), .tr true (T.int IntKind.i64 m.c.4), .tr true (T.int IntKind.i64 m.c.5), .tr true (T.int IntKind.i64 m.c.6), .tr false (eL 11 Rm.cs m.2), .tr false (eL 1 rowI m.3)])]⟩), (12, ⟨z0, [(false, [(C.pt (Pt.ptr 13 0 [] 2 0 0))])]⟩), (13, ⟨z0, [(true, [.tr true (T.int IntKind.i64 h.1), .tr true (T.int IntKind.i64 h.2)])]⟩), (20, ⟨z0, [(false, [.tr true (T.int IntKind.i64 x20)])]⟩), (40, ⟨z0, []⟩)]
theorem round_sRoomOf_1 (m : Ml) (h : Hd) (x20 : Int) (n : Nat) (K : Ex → St → Res) : roundAt prog (tabS []) kp_sRoomOf F_sRoomOf [1, 0, 1, 0] n (st_sRoomOf_1 m h x20) K = (
 bif decide (x20 < (↑m.2.length : Int)) then
  gd (decide (0 ≤ x20) && (x20.toNat.blt m.2.length && true)) <|
  gd (T.isI IntKind.i64 (atL Rm.cs m.2 x20.toNat 0) && T.isI IntKind.i64 (atL Rm.cs m.2 x20.toNat 1)) <|
  bif bif (atL Rm.cs m.2 x20.toNat 0).toI == h.1 then bif (atL Rm.cs m.2 x20.toNat 1).toI == h.2 then true else false
else false then
   K .ret (ex_sRoomOf_1_1 m h x20)
  else
  K .normal (st_sRoomOf_1 m h (IntKind.i64.wrap (x20 + 1)))
 else
 K (.exit 0) (ex_sRoomOf_1_2 m h x20)) := by kernel_rfl
theorem post_sRoomOf_1_1 (m : Ml) (h : Hd) (x20 : Int) (n : Nat) : contAt prog (tabS []) kp_sRoomOf F_sRoomOf ts_sRoomOf [1, 0, 1, 0] [] n .ret (ex_sRoomOf_1_1 m h x20) = (
 some ([(false, [.tr true (T.int IntKind.i64 x20)])], [(false, []), (false, [])])) := by kernel_rfl
theorem post_sRoomOf_1_2 (m : Ml) (h : Hd) (x20 : Int) (n : Nat) : contAt prog (tabS []) kp_sRoomOf F_sRoomOf ts_sRoomOf [1, 0, 1, 0] [] n (.exit 0) (ex_sRoomOf_1_2 m h x20) = (
 some ([(false, [.tr true (T.int IntKind.i64 (-1))])], [(false, []), (false, [])])) := by kernel_rfl
theorem pre_sRoomOf (m : Ml) (h : Hd) (n : Nat) : body prog (tabS []) kp_sRoomOf n F_sRoomOf [aR m.cs, aR h.cs] = (
 loopAt prog (tabS []) kp_sRoomOf F_sRoomOf [1, 0, 1, 0] n n (st_sRoomOf_1 m h (0)) (contAt prog (tabS []) kp_sRoomOf F_sRoomOf ts_sRoomOf [1, 0, 1, 0] [] n)) := by kernel_rfl
theorem body_sRoomOf (m : Ml) (h : Hd) (h0 : ok_sRoomOf (m, h)) : body prog (tabS []) kp_sRoomOf (m.rooms.length + 1) F_sRoomOf (ea_sRoomOf (m, h)) = some (erI 2 (f_sRoomOf (m, h))) := by
  have hlm := lm
  have hl : m.rooms.length ≤ LM := h0
  unfold ea_sRoomOf f_sRoomOf
  try dsimp only
  rw [pre_sRoomOf]
  have hst : st_sRoomOf_1 m h 0 = (fun i : Nat => st_sRoomOf_1 m h (i : Nat)) 0 := rfl
  rw [hst, forExit m.rooms.length (fun i : Nat => st_sRoomOf_1 m h (i : Nat)) (ex_sRoomOf_1_2 m h m.rooms.length) 0 (fun i => decide (m.rooms[i]?.map Rm.h = some h)) .ret (fun e => by cases e) (fun i : Nat => ex_sRoomOf_1_1 m h (i : Nat)) (fun i K hi => ?_) (fun K => ?_) _ (Nat.le_refl _)]
  · unfold rof
    cases (List.range m.rooms.length).find? (fun i => decide (m.rooms[i]?.map Rm.h = some h)) with
    | none => exact (post_sRoomOf_1_2 m h _ _).trans rfl
    | some i => exact (post_sRoomOf_1_1 m h _ _).trans rfl
  · have hx := List.getElem?_eq_getElem hi
    rw [round_sRoomOf_1]
    simp (disch := omega) only [lt_d, ge0_d, Int.toNat_natCast, blt_d, ble_self, beq_self, decide_true, cond_true, Bool.and_self, Bool.and_true, Bool.true_and, gd_true, Nat.zero_add, List.getD_cons_zero, List.getD_cons_succ, isI_int, toI_int, isB_bool, toB_bool, eL_T, arr_ln, arr_fn, arr_wd, arr_is, arr_get, hi, atL_of hx, hx, Option.map_some, Rm.cs, wrapS, int_eq, cond_tf, cond_bf, Bool.and_true, dec_and, hd_eq]
  · rw [round_sRoomOf_1]
    simp only [lt_d, Nat.lt_irrefl, decide_false, cond_false]
theorem s_sRoomOf : EntOk prog i_sRoomOf e_sRoomOf := ent_ok ea_sRoomOf_inj fun x hx =>
  body_sound (φ := (tabS [])) tabS_nil mixed (kp := kp_sRoomOf) (n := x.1.rooms.length + 1) func123 (c := bodyOf F_sRoomOf) (by kernel_rfl) (body_sRoomOf x.1 x.2 hx) (name_ok (by kernel_rfl))
def ok_iRoomOf (x : Ml × Hd) : Prop := x.1.rooms.length ≤ LM
def ea_iRoomOf (x : Ml × Hd) : List Arg := [aR x.1.cs, aR x.2.cs]
def f_iRoomOf (x : Ml × Hd) : Int := rof x.1.rooms x.2
noncomputable def e_iRoomOf : Ent := ent [] ok_iRoomOf ea_iRoomOf (erI 2) f_iRoomOf
theorem ea_iRoomOf_inj (x y : Ml × Hd) (h : ea_iRoomOf x = ea_iRoomOf y) : x = y := by
  obtain ⟨m1, h1⟩ := x
  obtain ⟨m2, h2⟩ := y
  simp only [ea_iRoomOf, List.cons.injEq, and_true, true_and] at h
  obtain ⟨e0, e1⟩ := h
  obtain rfl := Ml.cs_ext (aR_inj e0)
  obtain rfl := Hd.cs_ext (aR_inj e1)
  rfl
theorem dm_iRoomOf {m : Ml} {h : Hd} (h0 : ok_iRoomOf (m, h)) : dom ok_iRoomOf ea_iRoomOf [(0, true, [C.tr false (T.int IntKind.i64 m.c.chunks), C.tr false (T.int IntKind.i64 m.c.size), C.tr false (T.int IntKind.i64 m.c.slots), C.tr false (T.int IntKind.i64 m.c.tax), C.tr false (T.int IntKind.i64 m.c.slice), C.tr false (T.int IntKind.i64 m.c.gens), C.tr false (T.arr 11 m.rooms.length (atL Rm.cs m.rooms)), C.tr false (T.arr 1 m.log.length (atL rowI m.log))]), (0, true, [C.tr false (T.int IntKind.i64 h.slot), C.tr false (T.int IntKind.i64 h.gen)])] = true := dom_ea (ea := ea_iRoomOf) (x := (m, h)) h0
theorem iv_iRoomOf {m : Ml} {h : Hd} (h0 : ok_iRoomOf (m, h)) : inv ok_iRoomOf ea_iRoomOf [(0, true, [C.tr false (T.int IntKind.i64 m.c.chunks), C.tr false (T.int IntKind.i64 m.c.size), C.tr false (T.int IntKind.i64 m.c.slots), C.tr false (T.int IntKind.i64 m.c.tax), C.tr false (T.int IntKind.i64 m.c.slice), C.tr false (T.int IntKind.i64 m.c.gens), C.tr false (T.arr 11 m.rooms.length (atL Rm.cs m.rooms)), C.tr false (T.arr 1 m.log.length (atL rowI m.log))]), (0, true, [C.tr false (T.int IntKind.i64 h.slot), C.tr false (T.int IntKind.i64 h.gen)])] = (m, h) := inv_ea ea_iRoomOf_inj (x := (m, h)) h0
theorem d_iRoomOf (m : Ml) (h : Hd) : f_iRoomOf (m, h) = rof m.rooms h := rfl
def i_iRoomOf : Nat := 128
noncomputable abbrev F_iRoomOf : Func := f128
def kp_iRoomOf : List (Nat × List Nat) := [(0, [8, 9, 12, 13]), (1, [16])]
theorem pre_iRoomOf (m : Ml) (h : Hd) (n : Nat) : body prog (tabS [(i_ixRm, e_ixRm)]) kp_iRoomOf n F_iRoomOf [aR m.cs, aR h.cs] = (
 gd (dom ok_ixRm ea_ixRm
  [(0, false, [C.tr false (eL 11 Rm.cs m.2)]),
    (0, false, [C.fn 168 [Pt.pim 2 (pimF [T.int IntKind.i64 h.1, T.int IntKind.i64 h.2])]])]) <|
 some ([(false, [.tr true (T.int IntKind.i64
  (f_ixRm
    (inv ok_ixRm ea_ixRm
      [(0, false, [C.tr false (eL 11 Rm.cs m.2)]),
        (0, false, [C.fn 168 [Pt.pim 2 (pimF [T.int IntKind.i64 h.1, T.int IntKind.i64 h.2])]])])))])], [(false, []), (false, [])])) := by kernel_rfl
theorem body_iRoomOf (m : Ml) (h : Hd) (n : Nat) (h0 : ok_iRoomOf (m, h)) : body prog (tabS [(i_ixRm, e_ixRm)]) kp_iRoomOf n F_iRoomOf (ea_iRoomOf (m, h)) = some (erI 2 (f_iRoomOf (m, h))) := by
  have c : ok_ixRm (m.rooms, h) := h0
  unfold ea_iRoomOf f_iRoomOf
  try dsimp only
  rw [pre_iRoomOf]
  simp only [eL_T, dm_ixRm c, iv_ixRm c, d_ixRm, gd_true]
  rfl
theorem s_iRoomOf : EntOk prog i_iRoomOf e_iRoomOf := ent_ok ea_iRoomOf_inj fun x hx =>
  body_sound (φ := (tabS [(i_ixRm, e_ixRm)])) (tabS_cons s_ixRm tabS_nil) mixed (kp := kp_iRoomOf) (n := 0) func128 (c := bodyOf F_iRoomOf) (by kernel_rfl) (body_iRoomOf x.1 x.2 (0) hx) (name_ok (by kernel_rfl))
end Go.Mach.F
namespace Go.Mach
open Go
section
variable {P : Program} {φ : Sems}
theorem S.free {E σ a w} (h : S E σ a w) (t : Nat) (x : Value) (hr : (σ.get (slot t)).rows = []) : S E σ (a.put (some t) x) w := by
  obtain ⟨G, hG, hp⟩ := h
  refine ⟨G, ⟨hG.nd, hG.inj, hG.rng, hG.os, hG.tape, hG.output, hG.size, hG.kept, fun t' => ?_, hG.boxes, hG.exts, hG.xbox, hG.defers, ?_, hG.here⟩, hp⟩
  · by_cases e : t' = t
    · subst e
      rw [hr]
      trivial
    · have := hG.slots t'
      have e2 : (a.put (some t) x).tmps.getD t' undef = a.tmps.getD t' undef := by
        simp only [Act.put, Array.getD_eq_getD_getElem?]
        rw [Array.getElem?_setIfInBounds_ne (fun h => e h.symm)]
      rw [e2]
      exact this
  · have := hG.tm
    simpa [Act.put] using this
/-- What a function's code computes if it ends in a return. -/
def bodyR (P : Program) (φ : Sems) (kp : List (Nat × List Nat)) (n : Nat) (fn : Func) (X : Code) (args : List Arg) : Res :=
  exec P φ (kpOf kp) fn.ntmps none n X (initA fn.ntmps 0 args) fun e σ => match e with
    | .ret => resultsK P φ none fn (args.map (·.1)) σ fun rows outs => some (rows, outs)
    | _ => none
theorem ret_sound (hφ : SemsOk P φ) (hm : P.follows .mixedOrders = true) {kp : List (Nat × List Nat)} {n : Nat} {fn : Func} {X : Code} {args : List Arg} {rs outs : List Row} (h : bodyR P φ kp n fn X args = some (rs, outs))
    {w : World} {vals : Array Value} {γ : Nat → Gh} (hargs : ArgsX w args vals γ) {a : Act} (hS : S ⟨w, Dof γ, fn.ntmps, fun i => vals.getD i undef, fun t => initG fn.ntmps args γ (box t) []⟩ (initA fn.ntmps 0 args) a w) :
    X.wp P (fun e a w' => e = .ret ∧ bodyPost P fn (fun e w' => ∃ v δ, e = .returned v ∧ GrewD w w' (Dof γ) ∧ ResX w w' γ args vals rs outs v δ) .ret a w') a w := by
  unfold bodyR at h
  have h' := cast (exec_nat (P := P) (φ := φ) (fun o : Option (List Row × List Row) => o = some (rs, outs)) (z := none) (z' := False) (by simp) (kpOf kp) fn.ntmps n X (initA fn.ntmps 0 args) fun e σ => match e with
    | .ret => resultsK P φ none fn (args.map (·.1)) σ fun rows outs => some (rows, outs)
    | _ => none) h
  have hxb : ∀ i x, args[i]? = some x → x.1 = 2 → (fun t => initG fn.ntmps args γ (box t) []) (fn.ntmps + i) = γ i [] := fun i x hi ht => by
    simp only
    rw [initG_box, tagOf_eq hi, if_pos ht]
  refine cond_sound hm (E := ⟨w, Dof γ, fn.ntmps, fun i => vals.getD i undef, fun t => initG fn.ntmps args γ (box t) []⟩) hφ X _ _ _ _ _ h' hS fun e σ' a' w' hK hS => ?_
  cases e with
  | exit i => cases hK
  | normal => cases hK
  | ret => exact ⟨rfl, post_sound hargs hxb hS hK⟩
theorem clone_sound (hφ : SemsOk P φ) (hm : P.follows .mixedOrders = true) {kp : List (Nat × List Nat)} {n : Nat} {f : FuncId} {fn : Func} (hf : P.funcs[f]? = some fn) (hN : fn.name ≠ "runtime.NumGoroutine") {o0 o1 o2 : Oper} {A B : Code}
    (hc : fn.body = some (.seq (.region 0 #[o0] false) (.seq (.seq (.region 1 #[o1, o2] false) (.cond (.tmp 4) A .skip)) B)))
    (g0 : o0.guard = none) (g1 : o1.guard = none) (g2 : o2.guard = none)
    (h0 : ∀ a w K Q, K (a.put (some 2) (.slice none 0 0)) w → o0.wp P a w K Q)
    (h1 : ∀ a w K Q, K (a.put (some 3) (a.eval (.tmp 0))) w → o1.wp P a w K Q)
    (h2 : ∀ a w K Q Ad k c, a.eval (.tmp 3) = .slice Ad k c → K (a.put (some 4) (.bool Ad.isNone)) w → o2.wp P a w K Q)
    (hnt : 5 ≤ fn.ntmps) {m k : Nat} {ft : Nat → Nat → T} {rs outs : List Row}
    (hA : k = 0 → bodyR P φ kp n fn A [F.aT (.arr m k ft)] = some (rs, outs))
    (hB : bodyR P φ kp n fn B [F.aT (.arr m k ft)] = some (rs, outs)) : Sound P f [F.aT (.arr m k ft)] rs outs := by
  refine ⟨⟨fn, hf, by rw [hc]; rfl, hN⟩, fun w vals γ hargs => ?_⟩
  have hS := S.init (nt := fn.ntmps) hargs (by simp only [List.length_cons, List.length_nil]; omega)
  obtain ⟨v, hv, hok⟩ := hargs.arg 0 _ rfl
  have hr : RelIm w (calleeEnv w (Dof γ)).N (.arr m k ft) v := by
    unfold ArgOk at hok
    rw [if_neg (by simp [F.aT]), if_neg (by simp [F.aT])] at hok
    exact hok (fun _ => noG) fun _ => z0
  obtain ⟨Ad, cap, rfl, hcap, hpos⟩ := hr
  refine calls_of_wp hf hc ?_
  have hsz := hargs.size
  simp only [List.length_cons, List.length_nil] at hsz
  generalize ha : (⟨vals ++ Array.replicate (fn.ntmps - vals.size) undef, []⟩ : Act) = a at hS ⊢
  have hat : a.tmps.size = fn.ntmps := by rw [← ha]; simp; omega
  have ha0 : a.eval (.tmp 0) = .slice Ad k cap := by
    rw [← ha]
    simp only [Act.eval, Array.getD_eq_getD_getElem?]
    rw [Array.getElem?_append_left (by omega), hv]
    rfl
  have want : ∀ (o : Oper) t, o.guard = none → Region.wanted o t = true := fun o t h => by simp [Region.wanted, h]
  refine wp_seq (wp_region ?_)
  show wpOps P #[o0] _ [0] a w
  simp only [wpOps, List.getElem?_toArray, List.getElem?_cons_zero, want _ _ g0, if_true]
  refine .inl (h0 _ _ _ _ ?_)
  refine wp_seq (wp_seq (wp_region ?_))
  show wpOps P #[o1, o2] _ [0, 1] _ w
  simp only [wpOps, List.getElem?_toArray, List.getElem?_cons_zero, List.getElem?_cons_succ, want _ _ g1, want _ _ g2, if_true]
  refine .inl (h1 _ _ _ _ (.inl (h2 _ _ _ _ Ad k cap ?_ ?_)))
  · have e1 : (a.put (some 2) (.slice none 0 0)).eval (.tmp 0) = .slice Ad k cap := by
      rw [← ha0]
      simp [Act.put, Act.eval, Array.getD_eq_getD_getElem?]
    rw [e1]
    have h3 : 3 < a.tmps.size := by omega
    simp [Act.put, Act.eval, Array.getD_eq_getD_getElem?, Array.getElem?_setIfInBounds, h3]
  · generalize hx : (a.put (some 2) (Value.slice none 0 0)).eval (.tmp 0) = x
    have hS2 : S ⟨w, Dof γ, fn.ntmps, fun i => vals.getD i undef, fun t => initG fn.ntmps [F.aT (.arr m k ft)] γ (box t) []⟩ (initA fn.ntmps 0 [F.aT (.arr m k ft)]) ((((a.put (some 2) (.slice none 0 0))).put (some 3) x).put (some 4) (.bool Ad.isNone)) w :=
      ((hS.free 2 _ rfl).free 3 _ rfl).free 4 _ rfl
    have e4 : ((((a.put (some 2) (Value.slice none 0 0))).put (some 3) x).put (some 4) (.bool Ad.isNone)).eval (.tmp 4) = .bool Ad.isNone := by
      have h4 : 4 < a.tmps.size := by omega
      simp [Act.put, Act.eval, Array.getD_eq_getD_getElem?, Array.getElem?_setIfInBounds, h4]
    refine wp_cond e4 ?_
    cases Ad with
    | none =>
      have hk : k = 0 := by
        rcases Nat.eq_zero_or_pos k with h | h
        · exact h
        · obtain ⟨b, off, he, _⟩ := hpos h
          cases he
      refine wp_mono (ret_sound hφ hm (hA hk) hargs hS2) fun e a' w' hq => ?_
      obtain ⟨rfl, hq⟩ := hq
      exact hq
    | some ad =>
      refine wp_skip ?_
      refine wp_mono (ret_sound hφ hm hB hargs hS2) fun e a' w' hq => ?_
      obtain ⟨rfl, hq⟩ := hq
      exact hq
end
end Go.Mach
namespace Go.Mach.F
open Go Go.Mach Go.Proofs.Try
--=set_option maxRecDepth 100000
theorem plain_I (l : List Int) : plainF (atL rowI l) = atL rowI l := by
  funext j k
  unfold plainF atL
  cases l[j]? with
  | none => rfl
  | some x => cases k <;> rfl
theorem plain_B (l : List UInt8) : plainF (atL rowB l) = atL rowB l := by
  funext j k
  unfold plainF atL
  cases l[j]? with
  | none => rfl
  | some x => cases k <;> rfl
theorem plain_Hd (l : List Hd) : plainF (atL Hd.cs l) = atL Hd.cs l := by
  funext j k
  unfold plainF atL
  cases l[j]? with
  | none => rfl
  | some x => rcases k with _ | _ | k <;> rfl
theorem app0 (f g : Nat → Nat → T) : appF 0 f g = g := by
  funext j k
  unfold appF
  rfl
def i_clB : Nat := 166
def ok_clB (l : List UInt8) : Prop := l.length ≤ LM
def ea_clB (l : List UInt8) : List Arg := [aT (eB l)]
def f_clB (l : List UInt8) : List UInt8 := l
noncomputable def e_clB : Ent := ent [] ok_clB ea_clB (fun l => erT 1 (eB l)) f_clB
theorem ea_clB_inj (x y : List UInt8) (h : ea_clB x = ea_clB y) : x = y := by
  simp only [ea_clB, aT, List.cons.injEq, Prod.mk.injEq, true_and, and_true, C.tr.injEq] at h
  exact eB_inj h
theorem dm_clB {l : List UInt8} (h : ok_clB l) : dom ok_clB ea_clB [(0, false, [C.tr false (T.arr 1 l.length (atL rowB l))])] = true := dom_ea (ea := ea_clB) (x := l) h
theorem iv_clB {l : List UInt8} (h : ok_clB l) : inv ok_clB ea_clB [(0, false, [C.tr false (T.arr 1 l.length (atL rowB l))])] = l := inv_ea ea_clB_inj (x := l) h
theorem d_clB (l : List UInt8) : f_clB l = l := rfl
theorem br_clB (l : List UInt8) : bodyR prog (tabS []) [(0, [0]), (1, [0, 16]), (2, [8]), (3, [8])] 0 f166 (sub (bodyOf f166) [1, 1]) [aT (eB l)] = (
 gd (((0 + l.length) * 1).ble 70368744177664 && (0 + l.length).ble 70368744177664) <|
 gd ((0 + l.length).ble (0 + l.length) && true) <|
 gd ((0 + l.length).ble (0 + l.length) && true) <|
 some ([(false, [.tr true (.arr (1) (0 + l.length) (appF 0 (fun j k => T.hole) (plainF (atL rowB l))))])], [(false, [])])) := by kernel_rfl
theorem s_clB : EntOk prog i_clB e_clB := ent_ok ea_clB_inj fun l hl => by
  have hlm := lm
  have hl' : l.length ≤ LM := hl
  have hb := br_clB l
  simp only [Nat.zero_add, ble_d, Nat.le_refl, decide_true, Bool.and_true, gd_true, app0, plain_B] at hb
  rw [decide_eq_true (show l.length * 1 ≤ 70368744177664 by omega), decide_eq_true (show l.length ≤ 70368744177664 by omega)] at hb
  simp only [Bool.and_true, gd_true] at hb
  refine clone_sound (φ := tabS []) tabS_nil mixed (kp := [(0, [0]), (1, [0, 16]), (2, [8]), (3, [8])]) (n := 0) func166 (name_ok (by kernel_rfl)) (hc := rfl) rfl rfl rfl (fun a w K Q h => wp_value rfl h) (fun a w K Q h => wp_value rfl h) (fun a w K Q Ad k c he h => ?_) (by decide) (fun hk => ?_) hb
  · cases Ad with
    | none => exact wp_value (v := .bool true) (w' := w) (by simp only [execOp, he]; kernel_rfl) h
    | some ad => exact wp_value (v := .bool false) (w' := w) (by simp only [execOp, he]; kernel_rfl) h
  · have : l = [] := List.length_eq_zero_iff.1 hk
    subst this
    have ha : bodyR prog (tabS []) [(0, [0]), (1, [0, 16]), (2, [8]), (3, [8])] 0 f166 (sub (bodyOf f166) [1, 0, 1, 0]) [aT (eB [])] = some ([(false, [.tr true (.arr 1 0 fun _ _ => .hole)])], [(false, [])]) := by kernel_rfl
    exact ha
def i_clH : Nat := 167
def ok_clH (l : List Hd) : Prop := l.length ≤ LM
def ea_clH (l : List Hd) : List Arg := [aT (eL 2 Hd.cs l)]
def f_clH (l : List Hd) : List Hd := l
noncomputable def e_clH : Ent := ent [] ok_clH ea_clH (fun l => erT 1 (eL 2 Hd.cs l)) f_clH
theorem ea_clH_inj (x y : List Hd) (h : ea_clH x = ea_clH y) : x = y := by
  simp only [ea_clH, aT, List.cons.injEq, Prod.mk.injEq, true_and, and_true, C.tr.injEq] at h
  exact eL_inj Hd.cs_inj h
theorem dm_clH {l : List Hd} (h : ok_clH l) : dom ok_clH ea_clH [(0, false, [C.tr false (T.arr 2 l.length (atL Hd.cs l))])] = true := dom_ea (ea := ea_clH) (x := l) h
theorem iv_clH {l : List Hd} (h : ok_clH l) : inv ok_clH ea_clH [(0, false, [C.tr false (T.arr 2 l.length (atL Hd.cs l))])] = l := inv_ea ea_clH_inj (x := l) h
theorem d_clH (l : List Hd) : f_clH l = l := rfl
theorem br_clH (l : List Hd) : bodyR prog (tabS []) [(0, [0]), (1, [0, 16]), (2, [8]), (3, [8])] 0 f167 (sub (bodyOf f167) [1, 1]) [aT (eL 2 Hd.cs l)] = (
 gd (((0 + l.length) * 16).ble 70368744177664 && (0 + l.length).ble 70368744177664) <|
 gd ((0 + l.length).ble (0 + l.length) && true) <|
 gd ((0 + l.length).ble (0 + l.length) && true) <|
 some ([(false, [.tr true (.arr (2) (0 + l.length) (appF 0 (fun j k => T.hole) (plainF (atL Hd.cs l))))])], [(false, [])])) := by kernel_rfl
theorem s_clH : EntOk prog i_clH e_clH := ent_ok ea_clH_inj fun l hl => by
  have hlm := lm
  have hl' : l.length ≤ LM := hl
  have hb := br_clH l
  simp only [Nat.zero_add, ble_d, Nat.le_refl, decide_true, Bool.and_true, gd_true, app0, plain_Hd] at hb
  rw [decide_eq_true (show l.length * 16 ≤ 70368744177664 by omega), decide_eq_true (show l.length ≤ 70368744177664 by omega)] at hb
  simp only [Bool.and_true, gd_true] at hb
  refine clone_sound (φ := tabS []) tabS_nil mixed (kp := [(0, [0]), (1, [0, 16]), (2, [8]), (3, [8])]) (n := 0) func167 (name_ok (by kernel_rfl)) (hc := rfl) rfl rfl rfl (fun a w K Q h => wp_value rfl h) (fun a w K Q h => wp_value rfl h) (fun a w K Q Ad k c he h => ?_) (by decide) (fun hk => ?_) hb
  · cases Ad with
    | none => exact wp_value (v := .bool true) (w' := w) (by simp only [execOp, he]; kernel_rfl) h
    | some ad => exact wp_value (v := .bool false) (w' := w) (by simp only [execOp, he]; kernel_rfl) h
  · have : l = [] := List.length_eq_zero_iff.1 hk
    subst this
    have ha : bodyR prog (tabS []) [(0, [0]), (1, [0, 16]), (2, [8]), (3, [8])] 0 f167 (sub (bodyOf f167) [1, 0, 1, 0]) [aT (eL 2 Hd.cs [])] = some ([(false, [.tr true (.arr 2 0 fun _ _ => .hole)])], [(false, [])]) := by kernel_rfl
    exact ha
def i_clI : Nat := 82
def ok_clI (l : List Int) : Prop := l.length ≤ LM
def ea_clI (l : List Int) : List Arg := [aT (eI l)]
def f_clI (l : List Int) : List Int := l
noncomputable def e_clI : Ent := ent [] ok_clI ea_clI (fun l => erT 1 (eI l)) f_clI
theorem ea_clI_inj (x y : List Int) (h : ea_clI x = ea_clI y) : x = y := by
  simp only [ea_clI, aT, List.cons.injEq, Prod.mk.injEq, true_and, and_true, C.tr.injEq] at h
  exact eI_inj h
theorem dm_clI {l : List Int} (h : ok_clI l) : dom ok_clI ea_clI [(0, false, [C.tr false (T.arr 1 l.length (atL rowI l))])] = true := dom_ea (ea := ea_clI) (x := l) h
theorem iv_clI {l : List Int} (h : ok_clI l) : inv ok_clI ea_clI [(0, false, [C.tr false (T.arr 1 l.length (atL rowI l))])] = l := inv_ea ea_clI_inj (x := l) h
theorem d_clI (l : List Int) : f_clI l = l := rfl
theorem br_clI (l : List Int) : bodyR prog (tabS []) [(0, [0]), (1, [0, 16]), (2, [8]), (3, [8])] 0 f82 (sub (bodyOf f82) [1, 1]) [aT (eI l)] = (
 gd (((0 + l.length) * 8).ble 70368744177664 && (0 + l.length).ble 70368744177664) <|
 gd ((0 + l.length).ble (0 + l.length) && true) <|
 gd ((0 + l.length).ble (0 + l.length) && true) <|
 some ([(false, [.tr true (.arr (1) (0 + l.length) (appF 0 (fun j k => T.hole) (plainF (atL rowI l))))])], [(false, [])])) := by kernel_rfl
theorem s_clI : EntOk prog i_clI e_clI := ent_ok ea_clI_inj fun l hl => by
  have hlm := lm
  have hl' : l.length ≤ LM := hl
  have hb := br_clI l
  simp only [Nat.zero_add, ble_d, Nat.le_refl, decide_true, Bool.and_true, gd_true, app0, plain_I] at hb
  rw [decide_eq_true (show l.length * 8 ≤ 70368744177664 by omega), decide_eq_true (show l.length ≤ 70368744177664 by omega)] at hb
  simp only [Bool.and_true, gd_true] at hb
  refine clone_sound (φ := tabS []) tabS_nil mixed (kp := [(0, [0]), (1, [0, 16]), (2, [8]), (3, [8])]) (n := 0) func82 (name_ok (by kernel_rfl)) (hc := rfl) rfl rfl rfl (fun a w K Q h => wp_value rfl h) (fun a w K Q h => wp_value rfl h) (fun a w K Q Ad k c he h => ?_) (by decide) (fun hk => ?_) hb
  · cases Ad with
    | none => exact wp_value (v := .bool true) (w' := w) (by simp only [execOp, he]; kernel_rfl) h
    | some ad => exact wp_value (v := .bool false) (w' := w) (by simp only [execOp, he]; kernel_rfl) h
  · have : l = [] := List.length_eq_zero_iff.1 hk
    subst this
    have ha : bodyR prog (tabS []) [(0, [0]), (1, [0, 16]), (2, [8]), (3, [8])] 0 f82 (sub (bodyOf f82) [1, 0, 1, 0]) [aT (eI [])] = some ([(false, [.tr true (.arr 1 0 fun _ _ => .hole)])], [(false, [])]) := by kernel_rfl
    exact ha
end Go.Mach.F
section
set_option maxRecDepth 100000
set_option maxHeartbeats 40000000
namespace Go.Mach.F
open Go Go.Mach Go.Proofs.Try
--=set_option maxRecDepth 100000
def ok_iRoom (x : Rm) : Prop := ok_HdS x.kids ∧ ok_SfS x.things ∧ ok_LI x.tags
def ea_iRoom (x : Rm) : List Arg := [aR x.cs]
def f_iRoom (x : Rm) : Rm := x
noncomputable def e_iRoom : Ent := ent [] ok_iRoom ea_iRoom (fun r => erR 1 r.cs) f_iRoom
theorem ea_iRoom_inj (x y : Rm) (h : ea_iRoom x = ea_iRoom y) : x = y := by
  simp only [ea_iRoom, List.cons.injEq, and_true, true_and] at h
  exact Rm.cs_ext (aR_inj h)
theorem dm_iRoom {r : Rm} (h : ok_iRoom r) : dom ok_iRoom ea_iRoom [(0, true, [C.tr false (T.int IntKind.i64 r.h.slot), C.tr false (T.int IntKind.i64 r.h.gen), C.tr false (T.int IntKind.i64 r.up.slot), C.tr false (T.int IntKind.i64 r.up.gen), C.tr false (T.arr 2 r.kids.length (atL Hd.cs r.kids)), C.tr false (T.int IntKind.i64 r.ep), C.tr false (T.int IntKind.i64 r.chunks), C.tr false (T.bool r.cur), C.tr false (T.int IntKind.i64 r.bump), C.tr false (T.arr 1 r.things.length (atL Sf.cs r.things)), C.tr false (T.arr 1 r.tags.length (atL rowI r.tags))])] = true := dom_ea (ea := ea_iRoom) (x := r) h
theorem iv_iRoom {r : Rm} (h : ok_iRoom r) : inv ok_iRoom ea_iRoom [(0, true, [C.tr false (T.int IntKind.i64 r.h.slot), C.tr false (T.int IntKind.i64 r.h.gen), C.tr false (T.int IntKind.i64 r.up.slot), C.tr false (T.int IntKind.i64 r.up.gen), C.tr false (T.arr 2 r.kids.length (atL Hd.cs r.kids)), C.tr false (T.int IntKind.i64 r.ep), C.tr false (T.int IntKind.i64 r.chunks), C.tr false (T.bool r.cur), C.tr false (T.int IntKind.i64 r.bump), C.tr false (T.arr 1 r.things.length (atL Sf.cs r.things)), C.tr false (T.arr 1 r.tags.length (atL rowI r.tags))])] = r := inv_ea ea_iRoom_inj (x := r) h
theorem d_iRoom (r : Rm) : f_iRoom r = r := rfl
def i_iRoom : Nat := 126
noncomputable abbrev F_iRoom : Func := f126
def kp_iRoom : List (Nat × List Nat) := [(0, [4, 5, 8, 9, 128]), (1, [4, 5, 8, 9, 12, 128]), (2, [4, 5, 8, 9, 12, 28, 32, 36, 40, 128]), (3, [4, 5, 8, 9, 12, 28, 32, 36, 40, 44, 128]), (4, [4, 5, 8, 9, 12, 20, 21, 28, 32, 36, 40, 48, 52, 128]), (5, [4, 5, 8, 9, 12, 28, 32, 36, 40, 128]), (6, [4, 5, 8, 9, 12, 28, 32, 36, 40, 128]), (7, [4, 5, 8, 9, 128]), (8, [4, 5, 8, 9, 128])]
def ts_iRoom : List Nat := [0]
def st_iRoom_1 (r : Rm) (nx12 : Nat) (fx12 : Nat → Nat → T) (x40 : Int) : St := [(4, ⟨z0, [(false, [(C.pt (Pt.ptr 5 0 [] 11 0 0))])]⟩), (5, ⟨z0, [(true, [.tr true (T.int IntKind.i64 r.h.1), .tr true (T.int IntKind.i64 r.h.2), .tr true (T.int IntKind.i64 r.up.1), .tr true (T.int IntKind.i64 r.up.2), .tr false (eL 2 Hd.cs r.3), .tr true (T.int IntKind.i64 r.4), .tr true (T.int IntKind.i64 r.5), .tr true (T.bool r.6), .tr true (T.int IntKind.i64 r.7), .tr false (eL 1 Sf.cs r.8), .tr false (eL 1 rowI r.9)])]⟩), (8, ⟨z0, [(false, [(C.pt (Pt.ptr 9 0 [] 11 0 0))])]⟩), (9, ⟨z0, [(true, [.tr true (T.int IntKind.i64 0), .tr true (T.int IntKind.i64 0), .tr true (T.int IntKind.i64 0), .tr true (T.int IntKind.i64 0), .tr true (.arr (2) (0) (fun x x_1 => T.hole)), .tr true (T.int IntKind.i64 0), .tr true (T.int IntKind.i64 0), .tr true (T.bool false), .tr true (T.int IntKind.i64 0), .tr true (.arr (1) (0) (fun x x_1 => T.hole)), .tr true (.arr (1) (0) (fun x x_1 => T.hole))])]⟩), (12, ⟨z0, [(false, [.tr true (.arr (1) (nx12) (fx12))])]⟩), (28, ⟨z0, [(false, [(C.pt (Pt.ptr 5 0 [] 11 0 9))])]⟩), (32, ⟨z0, [(false, [.tr false (eL 1 Sf.cs r.8)])]⟩), (36, ⟨z0, [(false, [.tr true (T.int IntKind.i64 (↑r.8.length : Int))])]⟩), (40, ⟨z0, [(false, [.tr true (T.int IntKind.i64 x40)])]⟩)]
def ex_iRoom_1_1 (r : Rm) (nx12 : Nat) (fx12 : Nat → Nat → T) (x40 : Int) : St := [(4, ⟨z0, [(false, [(C.pt (Pt.ptr 5 0 [] 11 0 0))])]⟩), (5, ⟨z0, [(true, [.tr true (T.int IntKind.i64 r.h.1), .tr true (T.int IntKind.i64 r.h.2), .tr true (T.int IntKind.i64 r.up.1), .tr true (T.int IntKind.i64 r.up.2), .tr false (eL 2 Hd.cs r.3), .tr true (T.int IntKind.i64 r.4), .tr true (T.int IntKind.i64 r.5), .tr true (T.bool r.6), .tr true (T.int IntKind.i64 r.7), .tr false (eL 1 Sf.cs r.8), .tr false (eL 1 rowI r.9)])]⟩), (8, ⟨z0, [(false, [(C.pt (Pt.ptr 9 0 [] 11 0 0))])]⟩), (9, ⟨z0, [(true, [.tr true (T.int IntKind.i64 0), .tr true (T.int IntKind.i64 0), .tr true (T.int IntKind.i64 0), .tr true (T.int IntKind.i64 0), .tr true (.arr (2) (0) (fun x x_1 => T.hole)), .tr true (T.int IntKind.i64 0), .tr true (T.int IntKind.i64 0), .tr true (T.bool false), .tr true (T.int IntKind.i64 0), .tr true (.arr (1) (0) (fun x x_1 => T.hole)), .tr true (.arr (1) (0) (fun x x_1 => T.hole))])]⟩), (12, ⟨z0, [(false, [.tr true (.arr (1) (nx12) (fx12))])]⟩), (28, ⟨z0, [(false, [(C.pt (Pt.ptr 5 0 [] 11 0 9))])]⟩), (32, ⟨z0, [(false, [.tr false (eL 1 Sf.cs r.8)])]⟩), (36, ⟨z0, [(false, [.tr true (T.int IntKind.i64 (↑r.8.length : Int))])]⟩), (40, ⟨z0, [(false, [.tr true (T.int IntKind.i64 x40)])]⟩), (44, ⟨z0, []⟩)]
theorem round_iRoom_1 (r : Rm) (nx12 : Nat) (fx12 : Nat → Nat → T) (x40 : Int) (n : Nat) (K : Ex → St → Res) : roundAt prog (tabS [(i_clB, e_clB), (i_clH, e_clH), (i_clI, e_clI)]) kp_iRoom F_iRoom [1, 1, 0, 1, 0] n (st_iRoom_1 r nx12 fx12 x40) K = (
 bif decide (x40 < (↑r.8.length : Int)) then
  gd (decide (0 ≤ x40) && (x40.toNat.blt r.8.length && true)) <|
  gd ((atL Sf.cs r.8 x40.toNat 0).isArr && (atL Sf.cs r.8 x40.toNat 0).wd.beq 1) <|
  entK ok_clB ea_clB (f_clB) [(0, false, [C.tr false (T.arr 1 (atL Sf.cs r.8 x40.toNat 0).ln (atL Sf.cs r.8 x40.toNat 0).fn)])] fun (r1 : List UInt8) =>
  gd (r1.length.ble r1.length && true) <|
  gd (r1.length.ble r1.length && true) <|
  gd (nx12.ble nx12 && true) <|
  gd (((nx12 + 1) * 24).ble 70368744177664 && (nx12 + 1).ble 70368744177664) <|
  gd ((nx12 + 1).ble (nx12 + 1) && true) <|
  K .normal (st_iRoom_1 r (nx12 + 1) (appF nx12 fx12 (rowsT [[T.arr 1 r1.length (atL rowB r1)]])) (IntKind.i64.wrap (x40 + 1)))
 else
 K (.exit 0) (ex_iRoom_1_1 r nx12 fx12 x40)) := by kernel_rfl
theorem post_iRoom_1_1 (r : Rm) (nx12 : Nat) (fx12 : Nat → Nat → T) (x40 : Int) (n : Nat) : contAt prog (tabS [(i_clB, e_clB), (i_clH, e_clH), (i_clI, e_clI)]) kp_iRoom F_iRoom ts_iRoom [1, 1, 0, 1, 0] [] n (.exit 0) (ex_iRoom_1_1 r nx12 fx12 x40) = (
 entK ok_clH ea_clH (f_clH) [(0, false, [C.tr false (eL 2 Hd.cs r.3)])] fun (r2 : List Hd) =>
 entK ok_clI ea_clI (f_clI) [(0, false, [C.tr false (eL 1 rowI r.9)])] fun (r3 : List Int) =>
 gd (r2.length.ble r2.length && true) <|
 gd (nx12.ble nx12 && true) <|
 gd (r3.length.ble r3.length && true) <|
 gd (r2.length.ble r2.length && true) <|
 gd (nx12.ble nx12 && true) <|
 gd (r3.length.ble r3.length && true) <|
 gd (r2.length.ble r2.length && true) <|
 gd (nx12.ble nx12 && true) <|
 gd (r3.length.ble r3.length && true) <|
 some ([(true, [.tr true (T.int IntKind.i64 r.h.1), .tr true (T.int IntKind.i64 r.h.2), .tr true (T.int IntKind.i64 r.up.1), .tr true (T.int IntKind.i64 r.up.2), .tr true (.arr (2) (r2.length) ((eL 2 Hd.cs r2).fn)), .tr true (T.int IntKind.i64 r.4), .tr true (T.int IntKind.i64 r.5), .tr true (T.bool r.6), .tr true (T.int IntKind.i64 r.7), .tr true (.arr (1) (nx12) (fx12)), .tr true (.arr (1) (r3.length) (atL rowI r3))])], [(false, [])])) := by kernel_rfl
theorem pre_iRoom (r : Rm) (n : Nat) : body prog (tabS [(i_clB, e_clB), (i_clH, e_clH), (i_clI, e_clI)]) kp_iRoom n F_iRoom [aR r.cs] = (
 loopAt prog (tabS [(i_clB, e_clB), (i_clH, e_clH), (i_clI, e_clI)]) kp_iRoom F_iRoom [1, 1, 0, 1, 0] n n (st_iRoom_1 r (0) (rowsT []) (0)) (contAt prog (tabS [(i_clB, e_clB), (i_clH, e_clH), (i_clI, e_clI)]) kp_iRoom F_iRoom ts_iRoom [1, 1, 0, 1, 0] [] n)) := by kernel_rfl
def ok_sRoom (x : Rm) : Prop := ok_HdS x.kids ∧ ok_SfS x.things ∧ ok_LI x.tags
def ea_sRoom (x : Rm) : List Arg := [aR x.cs]
def f_sRoom (x : Rm) : Rm := x
noncomputable def e_sRoom : Ent := ent [] ok_sRoom ea_sRoom (fun r => erR 1 r.cs) f_sRoom
theorem ea_sRoom_inj (x y : Rm) (h : ea_sRoom x = ea_sRoom y) : x = y := by
  simp only [ea_sRoom, List.cons.injEq, and_true, true_and] at h
  exact Rm.cs_ext (aR_inj h)
theorem dm_sRoom {r : Rm} (h : ok_sRoom r) : dom ok_sRoom ea_sRoom [(0, true, [C.tr false (T.int IntKind.i64 r.h.slot), C.tr false (T.int IntKind.i64 r.h.gen), C.tr false (T.int IntKind.i64 r.up.slot), C.tr false (T.int IntKind.i64 r.up.gen), C.tr false (T.arr 2 r.kids.length (atL Hd.cs r.kids)), C.tr false (T.int IntKind.i64 r.ep), C.tr false (T.int IntKind.i64 r.chunks), C.tr false (T.bool r.cur), C.tr false (T.int IntKind.i64 r.bump), C.tr false (T.arr 1 r.things.length (atL Sf.cs r.things)), C.tr false (T.arr 1 r.tags.length (atL rowI r.tags))])] = true := dom_ea (ea := ea_sRoom) (x := r) h
theorem iv_sRoom {r : Rm} (h : ok_sRoom r) : inv ok_sRoom ea_sRoom [(0, true, [C.tr false (T.int IntKind.i64 r.h.slot), C.tr false (T.int IntKind.i64 r.h.gen), C.tr false (T.int IntKind.i64 r.up.slot), C.tr false (T.int IntKind.i64 r.up.gen), C.tr false (T.arr 2 r.kids.length (atL Hd.cs r.kids)), C.tr false (T.int IntKind.i64 r.ep), C.tr false (T.int IntKind.i64 r.chunks), C.tr false (T.bool r.cur), C.tr false (T.int IntKind.i64 r.bump), C.tr false (T.arr 1 r.things.length (atL Sf.cs r.things)), C.tr false (T.arr 1 r.tags.length (atL rowI r.tags))])] = r := inv_ea ea_sRoom_inj (x := r) h
theorem d_sRoom (r : Rm) : f_sRoom r = r := rfl
def i_sRoom : Nat := 121
noncomputable abbrev F_sRoom : Func := f121
def kp_sRoom : List (Nat × List Nat) := [(0, [4, 5, 8, 9, 12, 13, 20, 156]), (1, [4, 5, 8, 9, 12, 13, 20, 156]), (2, [4, 5, 8, 9, 12, 13, 20, 156]), (3, [4, 5, 8, 9, 12, 13, 20, 156]), (4, [4, 5, 8, 9, 12, 13, 20, 156]), (5, [4, 5, 8, 9, 12, 13, 16, 20, 156]), (6, [4, 5, 8, 9, 12, 13, 16, 20, 88, 156]), (7, [4, 5, 8, 9, 12, 13, 16, 20, 156]), (8, [4, 5, 8, 9, 12, 13, 16, 20, 156]), (9, [4, 5, 8, 9, 12, 13, 20, 156])]
def ts_sRoom : List Nat := [0]
def st_sRoom_1 (r : Rm) (nx13_9 : Nat) (fx13_9 : Nat → Nat → T) (x16 : Int) : St := [(4, ⟨z0, [(false, [(C.pt (Pt.ptr 5 0 [] 11 0 0))])]⟩), (5, ⟨z0, [(true, [.tr true (T.int IntKind.i64 r.h.1), .tr true (T.int IntKind.i64 r.h.2), .tr true (T.int IntKind.i64 r.up.1), .tr true (T.int IntKind.i64 r.up.2), .tr false (eL 2 Hd.cs r.3), .tr true (T.int IntKind.i64 r.4), .tr true (T.int IntKind.i64 r.5), .tr true (T.bool r.6), .tr true (T.int IntKind.i64 r.7), .tr false (eL 1 Sf.cs r.8), .tr false (eL 1 rowI r.9)])]⟩), (8, ⟨z0, [(false, [(C.pt (Pt.ptr 9 0 [] 11 0 0))])]⟩), (9, ⟨z0, [(true, [.tr true (T.int IntKind.i64 0), .tr true (T.int IntKind.i64 0), .tr true (T.int IntKind.i64 0), .tr true (T.int IntKind.i64 0), .tr true (.arr (2) (0) (fun x x_1 => T.hole)), .tr true (T.int IntKind.i64 0), .tr true (T.int IntKind.i64 0), .tr true (T.bool false), .tr true (T.int IntKind.i64 0), .tr true (.arr (1) (0) (fun x x_1 => T.hole)), .tr true (.arr (1) (0) (fun x x_1 => T.hole))])]⟩), (12, ⟨z0, [(false, [(C.pt (Pt.ptr 13 0 [] 11 0 0))])]⟩), (13, ⟨z0, [(true, [.tr true (T.int IntKind.i64 r.h.1), .tr true (T.int IntKind.i64 r.h.2), .tr true (T.int IntKind.i64 r.up.1), .tr true (T.int IntKind.i64 r.up.2), .tr true (.arr (2) (0 + r.3.length) (appF 0 (rowsT []) (plainF (atL Hd.cs r.3)))), .tr true (T.int IntKind.i64 r.4), .tr true (T.int IntKind.i64 r.5), .tr true (T.bool r.6), .tr true (T.int IntKind.i64 r.7), .tr true (.arr (1) (nx13_9) (fx13_9)), .tr true (.arr (1) (0 + r.9.length) (appF 0 (rowsT []) (plainF (atL rowI r.9))))])]⟩), (16, ⟨z0, [(false, [.tr true (T.int IntKind.i64 x16)])]⟩), (20, ⟨z0, [(true, [.tr true (T.int IntKind.i64 r.h.1), .tr true (T.int IntKind.i64 r.h.2), .tr true (T.int IntKind.i64 r.up.1), .tr true (T.int IntKind.i64 r.up.2), .tr false (eL 2 Hd.cs r.3), .tr true (T.int IntKind.i64 r.4), .tr true (T.int IntKind.i64 r.5), .tr true (T.bool r.6), .tr true (T.int IntKind.i64 r.7), .tr false (eL 1 Sf.cs r.8), .tr false (eL 1 rowI r.9)])]⟩)]
def ex_sRoom_1_1 (r : Rm) (nx13_9 : Nat) (fx13_9 : Nat → Nat → T) (x16 : Int) : St := [(4, ⟨z0, [(false, [(C.pt (Pt.ptr 5 0 [] 11 0 0))])]⟩), (5, ⟨z0, [(true, [.tr true (T.int IntKind.i64 r.h.1), .tr true (T.int IntKind.i64 r.h.2), .tr true (T.int IntKind.i64 r.up.1), .tr true (T.int IntKind.i64 r.up.2), .tr false (eL 2 Hd.cs r.3), .tr true (T.int IntKind.i64 r.4), .tr true (T.int IntKind.i64 r.5), .tr true (T.bool r.6), .tr true (T.int IntKind.i64 r.7), .tr false (eL 1 Sf.cs r.8), .tr false (eL 1 rowI r.9)])]⟩), (8, ⟨z0, [(false, [(C.pt (Pt.ptr 9 0 [] 11 0 0))])]⟩), (9, ⟨z0, [(true, [.tr true (T.int IntKind.i64 0), .tr true (T.int IntKind.i64 0), .tr true (T.int IntKind.i64 0), .tr true (T.int IntKind.i64 0), .tr true (.arr (2) (0) (fun x x_1 => T.hole)), .tr true (T.int IntKind.i64 0), .tr true (T.int IntKind.i64 0), .tr true (T.bool false), .tr true (T.int IntKind.i64 0), .tr true (.arr (1) (0) (fun x x_1 => T.hole)), .tr true (.arr (1) (0) (fun x x_1 => T.hole))])]⟩), (12, ⟨z0, [(false, [(C.pt (Pt.ptr 13 0 [] 11 0 0))])]⟩), (13, ⟨z0, [(true, [.tr true (T.int IntKind.i64 r.h.1), .tr true (T.int IntKind.i64 r.h.2), .tr true (T.int IntKind.i64 r.up.1), .tr true (T.int IntKind.i64 r.up.2), .tr true (.arr (2) (0 + r.3.length) (appF 0 (rowsT []) (plainF (atL Hd.cs r.3)))), .tr true (T.int IntKind.i64 r.4), .tr true (T.int IntKind.i64 r.5), .tr true (T.bool r.6), .tr true (T.int IntKind.i64 r.7), .tr true (.arr (1) (nx13_9) (fx13_9)), .tr true (.arr (1) (0 + r.9.length) (appF 0 (rowsT []) (plainF (atL rowI r.9))))])]⟩), (16, ⟨z0, [(false, [.tr true (T.int IntKind.i64 x16)])]⟩), (20, ⟨z0, [(true, [.tr true (T.int IntKind.i64 r.h.1), .tr true (T.int IntKind.i64 r.h.2), .tr true (T.int IntKind.i64 r.up.1), .tr true (T.int IntKind.i64 r.up.2), .tr false (eL 2 Hd.cs r.3), .tr true (T.int IntKind.i64 r.4), .tr true (T.int IntKind.i64 r.5), .tr true (T.bool r.6), .tr true (T.int IntKind.i64 r.7), .tr false (eL 1 Sf.cs r.8), .tr false (eL 1 rowI r.9)])]⟩), (88, ⟨z0, []⟩)]
theorem round_sRoom_1 (r : Rm) (nx13_9 : Nat) (fx13_9 : Nat → Nat → T) (x16 : Int) (n : Nat) (K : Ex → St → Res) : roundAt prog (tabS []) kp_sRoom F_sRoom [1, 1, 1, 1, 1, 0, 1, 0] n (st_sRoom_1 r nx13_9 fx13_9 x16) K = (
 bif decide (x16 < (↑r.8.length : Int)) then
  gd (decide (0 ≤ x16) && (x16.toNat.blt r.8.length && true)) <|
  gd ((atL Sf.cs r.8 x16.toNat 0).isArr && (atL Sf.cs r.8 x16.toNat 0).wd.beq 1) <|
  gd (((0 + (atL Sf.cs r.8 x16.toNat 0).ln) * 1).ble 70368744177664 &&
  (0 + (atL Sf.cs r.8 x16.toNat 0).ln).ble 70368744177664) <|
  gd ((0 + (atL Sf.cs r.8 x16.toNat 0).ln).ble (0 + (atL Sf.cs r.8 x16.toNat 0).ln) && true) <|
  gd ((0 + (atL Sf.cs r.8 x16.toNat 0).ln).ble (0 + (atL Sf.cs r.8 x16.toNat 0).ln) && true) <|
  gd (nx13_9.ble nx13_9 && true) <|
  gd (((nx13_9 + 1) * 24).ble 70368744177664 && (nx13_9 + 1).ble 70368744177664) <|
  gd ((nx13_9 + 1).ble (nx13_9 + 1) && true) <|
  K .normal (st_sRoom_1 r (nx13_9 + 1) (appF nx13_9 fx13_9
  (rowsT [[T.arr 1 (0 + (atL Sf.cs r.8 x16.toNat 0).ln) (appF 0 (rowsT []) (plainF (atL Sf.cs r.8 x16.toNat 0).fn))]])) (IntKind.i64.wrap (x16 + 1)))
 else
 K (.exit 0) (ex_sRoom_1_1 r nx13_9 fx13_9 x16)) := by kernel_rfl
theorem post_sRoom_1_1 (r : Rm) (nx13_9 : Nat) (fx13_9 : Nat → Nat → T) (x16 : Int) (n : Nat) : contAt prog (tabS []) kp_sRoom F_sRoom ts_sRoom [1, 1, 1, 1, 1, 0, 1, 0] [] n (.exit 0) (ex_sRoom_1_1 r nx13_9 fx13_9 x16) = (
 gd ((0 + r.3.length).ble (0 + r.3.length) && true) <|
 gd (nx13_9.ble nx13_9 && true) <|
 gd ((0 + r.9.length).ble (0 + r.9.length) && true) <|
 gd ((0 + r.3.length).ble (0 + r.3.length) && true) <|
 gd (nx13_9.ble nx13_9 && true) <|
 gd ((0 + r.9.length).ble (0 + r.9.length) && true) <|
 some ([(true, [.tr true (T.int IntKind.i64 r.h.1), .tr true (T.int IntKind.i64 r.h.2), .tr true (T.int IntKind.i64 r.up.1), .tr true (T.int IntKind.i64 r.up.2), .tr true (.arr (2) (0 + r.3.length) (appF 0 (rowsT []) (plainF (atL Hd.cs r.3)))), .tr true (T.int IntKind.i64 r.4), .tr true (T.int IntKind.i64 r.5), .tr true (T.bool r.6), .tr true (T.int IntKind.i64 r.7), .tr true (.arr (1) (nx13_9) (fx13_9)), .tr true (.arr (1) (0 + r.9.length) (appF 0 (rowsT []) (plainF (atL rowI r.9))))])], [(false, [])])) := by kernel_rfl
theorem pre_sRoom (r : Rm) (n : Nat) : body prog (tabS []) kp_sRoom n F_sRoom [aR r.cs] = (
 gd (((0 + r.3.length) * 16).ble 70368744177664 && (0 + r.3.length).ble 70368744177664) <|
 gd ((0 + r.3.length).ble (0 + r.3.length) && true) <|
 gd (((0 + r.9.length) * 8).ble 70368744177664 && (0 + r.9.length).ble 70368744177664) <|
 gd ((0 + r.9.length).ble (0 + r.9.length) && true) <|
 loopAt prog (tabS []) kp_sRoom F_sRoom [1, 1, 1, 1, 1, 0, 1, 0] n n (st_sRoom_1 r (0) (rowsT []) (0)) (contAt prog (tabS []) kp_sRoom F_sRoom ts_sRoom [1, 1, 1, 1, 1, 0, 1, 0] [] n)) := by kernel_rfl
end Go.Mach.F
end
namespace Go.Mach.F
open Go Go.Mach Go.Proofs.Try
theorem rowsT0 {α : Type} (row : α → List T) : rowsT [] = atL row ([] : List α) := by
  funext j k
  simp [rowsT, atL]
theorem app1g {α : Type} (row : α → List T) (out : List α) (x : α) : appF out.length (atL row out) (rowsT [row x]) = atL row (out ++ [x]) := by
  funext j k
  unfold appF
  rw [blt_d, Bool.cond_decide]
  by_cases h : j < out.length
  · rw [if_pos h]
    unfold atL
    rw [List.getElem?_append_left h]
  · rw [if_neg h]
    unfold atL
    rw [List.getElem?_append_right (by omega)]
    obtain ⟨d, hd⟩ : ∃ d, d = j - out.length := ⟨_, rfl⟩
    rw [← hd]
    cases d with
    | zero => rfl
    | succ d => simp [rowsT]
theorem take_app {α : Type} {l : List α} {i : Nat} {x : α} (row : α → List T) (h : l[i]? = some x) : appF i (atL row (l.take i)) (rowsT [row x]) = atL row (l.take (i + 1)) := by
  have hi : i < l.length := (List.getElem?_eq_some_iff.1 h).1
  have := app1g row (l.take i) x
  rw [List.length_take, show min i l.length = i by omega] at this
  rw [this, List.take_add_one, h]
  rfl
theorem body_iRoom (r : Rm) (h : ok_iRoom r) : body prog (tabS [(i_clB, e_clB), (i_clH, e_clH), (i_clI, e_clI)]) kp_iRoom (r.things.length + 1) F_iRoom (ea_iRoom r) = some (erR 1 (f_iRoom r).cs) := by
  have hlm := lm
  obtain ⟨h0, h1, h2⟩ : ok_HdS r.kids ∧ ok_SfS r.things ∧ ok_LI r.tags := h
  have hl : r.things.length ≤ LM := h1.1
  unfold ea_iRoom f_iRoom
  rw [pre_iRoom]
  have hst : st_iRoom_1 r 0 (rowsT []) 0 = (fun i : Nat => st_iRoom_1 r i (atL Sf.cs (r.things.take i)) (i : Nat)) 0 := by
    rw [rowsT0 Sf.cs]
    rfl
  rw [hst, forLoop r.things.length (fun i : Nat => st_iRoom_1 r i (atL Sf.cs (r.things.take i)) (i : Nat)) (ex_iRoom_1_1 r r.things.length (atL Sf.cs r.things) r.things.length) 0 (fun i K hi => ?_) (fun K => ?_) _ (Nat.le_refl _)]
  · have c1 : ok_clH r.kids := h0.1
    have c2 : ok_clI r.tags := h2
    rw [post_iRoom_1_1]
    simp only [lt_d, ge0_d, Int.toNat_natCast, blt_d, ble_self, beq_self, decide_true, cond_true, Bool.and_self, Bool.and_true, Bool.true_and, gd_true, Nat.zero_add, List.getD_cons_zero, List.getD_cons_succ, isI_int, toI_int, isB_bool, toB_bool, eL_T, arr_ln, arr_fn, arr_wd, arr_is, arr_get, eL_T, ble_d, Nat.le_refl, entK_of (dm_clH c1) (iv_clH c1), d_clH, entK_of (dm_clI c2) (iv_clI c2), d_clI]
    rfl
  · have hx := List.getElem?_eq_getElem hi
    obtain ⟨x, hxe⟩ : ∃ x, x = r.things[i] := ⟨_, rfl⟩
    rw [← hxe] at hx
    have c0 : ok_clB x.b := h1.2 _ (List.mem_of_getElem? hx)
    rw [round_iRoom_1, ← take_app Sf.cs hx]
    have hs : (i + 1) * 24 ≤ 70368744177664 := by omega
    have hs2 : i + 1 ≤ 70368744177664 := by omega
    simp (disch := omega) only [lt_d, ge0_d, Int.toNat_natCast, blt_d, ble_self, beq_self, decide_true, cond_true, Bool.and_self, Bool.and_true, Bool.true_and, gd_true, Nat.zero_add, List.getD_cons_zero, List.getD_cons_succ, isI_int, toI_int, isB_bool, toB_bool, eL_T, arr_ln, arr_fn, arr_wd, arr_is, arr_get, eL_T, ble_d, Nat.le_refl, hi, hs, hs2, atL_of hx, Sf.cs, wrapS, entK_of (dm_clB c0) (iv_clB c0), d_clB]
  · rw [round_iRoom_1]
    simp only [lt_d, Nat.lt_irrefl, decide_false, cond_false, List.take_length]
theorem s_iRoom : EntOk prog i_iRoom e_iRoom := ent_ok ea_iRoom_inj fun x hx =>
  body_sound (φ := (tabS [(i_clB, e_clB), (i_clH, e_clH), (i_clI, e_clI)])) (tabS_cons s_clB (tabS_cons s_clH (tabS_cons s_clI tabS_nil))) mixed (kp := kp_iRoom) (n := x.things.length + 1) func126 (c := bodyOf F_iRoom) (by kernel_rfl) (body_iRoom x hx) (name_ok (by kernel_rfl))
theorem body_sRoom (r : Rm) (h : ok_sRoom r) : body prog (tabS []) kp_sRoom (r.things.length + 1) F_sRoom (ea_sRoom r) = some (erR 1 (f_sRoom r).cs) := by
  have hlm := lm
  obtain ⟨h0, h1, h2⟩ : ok_HdS r.kids ∧ ok_SfS r.things ∧ ok_LI r.tags := h
  have hl : r.things.length ≤ LM := h1.1
  have hk : r.kids.length ≤ LM := h0.1
  have ht : r.tags.length ≤ LM := h2
  unfold ea_sRoom f_sRoom
  rw [pre_sRoom]
  have q1 : r.kids.length * 16 ≤ 70368744177664 := by omega
  have q2 : r.kids.length ≤ 70368744177664 := by omega
  have q3 : r.tags.length * 8 ≤ 70368744177664 := by omega
  have q4 : r.tags.length ≤ 70368744177664 := by omega
  simp only [lt_d, ge0_d, Int.toNat_natCast, blt_d, ble_self, beq_self, decide_true, cond_true, Bool.and_self, Bool.and_true, Bool.true_and, gd_true, Nat.zero_add, List.getD_cons_zero, List.getD_cons_succ, isI_int, toI_int, isB_bool, toB_bool, eL_T, arr_ln, arr_fn, arr_wd, arr_is, arr_get, ble_d, Nat.le_refl, q1, q2, q3, q4]
  have hst : st_sRoom_1 r 0 (rowsT []) 0 = (fun i : Nat => st_sRoom_1 r i (atL Sf.cs (r.things.take i)) (i : Nat)) 0 := by
    rw [rowsT0 Sf.cs]
    rfl
  rw [hst, forLoop r.things.length (fun i : Nat => st_sRoom_1 r i (atL Sf.cs (r.things.take i)) (i : Nat)) (ex_sRoom_1_1 r r.things.length (atL Sf.cs r.things) r.things.length) 0 (fun i K hi => ?_) (fun K => ?_) _ (Nat.le_refl _)]
  · rw [post_sRoom_1_1]
    have e1 : appF 0 (rowsT []) (plainF (atL Hd.cs r.kids)) = atL Hd.cs r.kids := by rw [plain_Hd, app0]
    have e2 : appF 0 (rowsT []) (plainF (atL rowI r.tags)) = atL rowI r.tags := by rw [plain_I, app0]
    simp only [lt_d, ge0_d, Int.toNat_natCast, blt_d, ble_self, beq_self, decide_true, cond_true, Bool.and_self, Bool.and_true, Bool.true_and, gd_true, Nat.zero_add, List.getD_cons_zero, List.getD_cons_succ, isI_int, toI_int, isB_bool, toB_bool, eL_T, arr_ln, arr_fn, arr_wd, arr_is, arr_get, ble_d, Nat.le_refl, e1, e2]
    rfl
  · have hx := List.getElem?_eq_getElem hi
    obtain ⟨x, hxe⟩ : ∃ x, x = r.things[i] := ⟨_, rfl⟩
    rw [← hxe] at hx
    have c0 : x.b.length ≤ LM := h1.2 _ (List.mem_of_getElem? hx)
    rw [round_sRoom_1, ← take_app Sf.cs hx]
    have hs : (i + 1) * 24 ≤ 70368744177664 := by omega
    have hs2 : i + 1 ≤ 70368744177664 := by omega
    have hs3 : x.b.length * 1 ≤ 70368744177664 := by omega
    have hs4 : x.b.length ≤ 70368744177664 := by omega
    have e1 : appF 0 (rowsT []) (plainF (atL rowB x.b)) = atL rowB x.b := by rw [plain_B, app0]
    simp (disch := omega) only [lt_d, ge0_d, Int.toNat_natCast, blt_d, ble_self, beq_self, decide_true, cond_true, Bool.and_self, Bool.and_true, Bool.true_and, gd_true, Nat.zero_add, List.getD_cons_zero, List.getD_cons_succ, isI_int, toI_int, isB_bool, toB_bool, eL_T, arr_ln, arr_fn, arr_wd, arr_is, arr_get, eL_T, ble_d, Nat.le_refl, hi, hs, hs2, hs3, hs4, atL_of hx, Sf.cs, wrapS, e1]
  · rw [round_sRoom_1]
    simp only [lt_d, Nat.lt_irrefl, decide_false, cond_false, List.take_length]
theorem s_sRoom : EntOk prog i_sRoom e_sRoom := ent_ok ea_sRoom_inj fun x hx =>
  body_sound (φ := (tabS [])) tabS_nil mixed (kp := kp_sRoom) (n := x.things.length + 1) func121 (c := bodyOf F_sRoom) (by kernel_rfl) (body_sRoom x hx) (name_ok (by kernel_rfl))
end Go.Mach.F
namespace Go.Mach.F
open Go Go.Mach Go.Proofs.Try
--=set_option maxRecDepth 100000
def zRm : Rm := ⟨⟨0, 0⟩, ⟨0, 0⟩, [], 0, 0, false, 0, [], []⟩
end Go.Mach.F
namespace Go.Mach.F
open Go Go.Mach Go.Proofs.Try
theorem rof_lt {l : List Rm} {h : Hd} (h0 : ¬ rof l h < 0) : 0 ≤ rof l h ∧ (rof l h).toNat < l.length := by
  refine ⟨by omega, ?_⟩
  unfold rof at h0 ⊢
  cases hf : (List.range l.length).find? (fun i => decide (l[i]?.map Rm.h = some h)) with
  | some i =>
    have := List.mem_range.1 (List.mem_of_find?_eq_some hf)
    simpa using this
  | none =>
    rw [hf] at h0
    exact absurd (by decide) h0
theorem getD_get {l : List Rm} {k : Nat} (h : k < l.length) : l[k]? = some (l.getD k zRm) := by
  rw [List.getD_eq_getElem?_getD, List.getElem?_eq_getElem h]
  rfl
end Go.Mach.F
namespace Go.Mach.F
open Go Go.Mach Go.Proofs.Try
--=set_option maxRecDepth 100000
def i_iHOk : Nat := 127
noncomputable abbrev F_iHOk : Func := f127
def kp_iHOk : List (Nat × List Nat) := [(0, [4, 5, 28, 32, 36]), (1, [8])]
noncomputable def e_iHOk : Ent := inl [] prog (tabS []) kp_iHOk 0 F_iHOk
theorem s_iHOk : EntOk prog i_iHOk e_iHOk := inl_ok tabS_nil mixed (c := bodyOf F_iHOk) func127 (by kernel_rfl) (name_ok (by kernel_rfl))
def i_sHOk : Nat := 122
noncomputable abbrev F_sHOk : Func := f122
def kp_sHOk : List (Nat × List Nat) := [(0, [4, 5, 28, 32, 36]), (1, [8])]
noncomputable def e_sHOk : Ent := inl [] prog (tabS []) kp_sHOk 0 F_sHOk
theorem s_sHOk : EntOk prog i_sHOk e_sHOk := inl_ok tabS_nil mixed (c := bodyOf F_sHOk) func122 (by kernel_rfl) (name_ok (by kernel_rfl))
end Go.Mach.F
namespace Go.Mach.F
open Go Go.Mach Go.Proofs.Try
--=set_option maxRecDepth 100000
def hOk (h : Hd) : Bool := decide (0 ≤ h.slot) && decide (1 ≤ h.gen)
def rsv (m : Ml) (h : Hd) : Int × Int := bif hOk h then (bif decide (rof m.rooms h < 0) then (-1, 2) else (rof m.rooms h, 0)) else (-1, 1)
def ok_iRsv (x : Ml × Hd) : Prop := x.1.rooms.length ≤ LM
def ea_iRsv (x : Ml × Hd) : List Arg := [aR x.1.cs, aR x.2.cs]
def f_iRsv (x : Ml × Hd) : Int × Int := rsv x.1 x.2
noncomputable def e_iRsv : Ent := ent [] ok_iRsv ea_iRsv (fun (x : Int × Int) => ([oT (.int .i64 x.1), oT (.int .i64 x.2)], [nul, nul])) f_iRsv
theorem ea_iRsv_inj (x y : Ml × Hd) (h : ea_iRsv x = ea_iRsv y) : x = y := by
  obtain ⟨m1, h1⟩ := x
  obtain ⟨m2, h2⟩ := y
  simp only [ea_iRsv, List.cons.injEq, and_true, true_and] at h
  obtain ⟨e0, e1⟩ := h
  obtain rfl := Ml.cs_ext (aR_inj e0)
  obtain rfl := Hd.cs_ext (aR_inj e1)
  rfl
theorem dm_iRsv {m : Ml} {h : Hd} (h0 : ok_iRsv (m, h)) : dom ok_iRsv ea_iRsv [(0, true, [C.tr false (T.int IntKind.i64 m.c.chunks), C.tr false (T.int IntKind.i64 m.c.size), C.tr false (T.int IntKind.i64 m.c.slots), C.tr false (T.int IntKind.i64 m.c.tax), C.tr false (T.int IntKind.i64 m.c.slice), C.tr false (T.int IntKind.i64 m.c.gens), C.tr false (T.arr 11 m.rooms.length (atL Rm.cs m.rooms)), C.tr false (T.arr 1 m.log.length (atL rowI m.log))]), (0, true, [C.tr false (T.int IntKind.i64 h.slot), C.tr false (T.int IntKind.i64 h.gen)])] = true := dom_ea (ea := ea_iRsv) (x := (m, h)) h0
theorem iv_iRsv {m : Ml} {h : Hd} (h0 : ok_iRsv (m, h)) : inv ok_iRsv ea_iRsv [(0, true, [C.tr false (T.int IntKind.i64 m.c.chunks), C.tr false (T.int IntKind.i64 m.c.size), C.tr false (T.int IntKind.i64 m.c.slots), C.tr false (T.int IntKind.i64 m.c.tax), C.tr false (T.int IntKind.i64 m.c.slice), C.tr false (T.int IntKind.i64 m.c.gens), C.tr false (T.arr 11 m.rooms.length (atL Rm.cs m.rooms)), C.tr false (T.arr 1 m.log.length (atL rowI m.log))]), (0, true, [C.tr false (T.int IntKind.i64 h.slot), C.tr false (T.int IntKind.i64 h.gen)])] = (m, h) := inv_ea ea_iRsv_inj (x := (m, h)) h0
theorem d_iRsv (m : Ml) (h : Hd) : f_iRsv (m, h) = rsv m h := rfl
def i_iRsv : Nat := 59
noncomputable abbrev F_iRsv : Func := f59
def kp_iRsv : List (Nat × List Nat) := [(0, [8, 9, 12, 13]), (1, [8, 9, 12, 13, 36]), (2, [16, 20]), (3, [24]), (4, [24, 56]), (5, [16, 20]), (6, [16, 20])]
theorem pre_iRsv (m : Ml) (h : Hd) (n : Nat) : body prog (tabS [(i_iHOk, e_iHOk), (i_iRoomOf, e_iRoomOf)]) kp_iRsv n F_iRsv [aR m.cs, aR h.cs] = (
 bif decide (0 ≤ h.1) then
  bif !decide (1 ≤ h.2) then
   some ([(false, [.tr true (T.int IntKind.i64 (-1))]), (false, [.tr true (T.int IntKind.i64 1)])], [(false, []), (false, [])])
  else
  entK ok_iRoomOf ea_iRoomOf (f_iRoomOf) [(0, true,
    [C.tr false (T.int IntKind.i64 m.c.1), C.tr false (T.int IntKind.i64 m.c.2),
      C.tr false (T.int IntKind.i64 m.c.3), C.tr false (T.int IntKind.i64 m.c.4),
      C.tr false (T.int IntKind.i64 m.c.5), C.tr false (T.int IntKind.i64 m.c.6), C.tr false (eL 11 Rm.cs m.2),
      C.tr false (eL 1 rowI m.3)]),
  (0, true, [C.tr false (T.int IntKind.i64 h.1), C.tr false (T.int IntKind.i64 h.2)])] fun (r1 : Int) =>
  bif decide (r1 < 0) then
   some ([(false, [.tr true (T.int IntKind.i64 (-1))]), (false, [.tr true (T.int IntKind.i64 2)])], [(false, []), (false, [])])
  else
  some ([(false, [.tr true (T.int IntKind.i64 r1)]), (false, [.tr true (T.int IntKind.i64 0)])], [(false, []), (false, [])])
 else
 some ([(false, [.tr true (T.int IntKind.i64 (-1))]), (false, [.tr true (T.int IntKind.i64 1)])], [(false, []), (false, [])])) := by kernel_rfl
def ok_sRsv (x : Ml × Hd) : Prop := x.1.rooms.length ≤ LM
def ea_sRsv (x : Ml × Hd) : List Arg := [aR x.1.cs, aR x.2.cs]
def f_sRsv (x : Ml × Hd) : Int × Int := rsv x.1 x.2
noncomputable def e_sRsv : Ent := ent [] ok_sRsv ea_sRsv (fun (x : Int × Int) => ([oT (.int .i64 x.1), oT (.int .i64 x.2)], [nul, nul])) f_sRsv
theorem ea_sRsv_inj (x y : Ml × Hd) (h : ea_sRsv x = ea_sRsv y) : x = y := by
  obtain ⟨m1, h1⟩ := x
  obtain ⟨m2, h2⟩ := y
  simp only [ea_sRsv, List.cons.injEq, and_true, true_and] at h
  obtain ⟨e0, e1⟩ := h
  obtain rfl := Ml.cs_ext (aR_inj e0)
  obtain rfl := Hd.cs_ext (aR_inj e1)
  rfl
theorem dm_sRsv {m : Ml} {h : Hd} (h0 : ok_sRsv (m, h)) : dom ok_sRsv ea_sRsv [(0, true, [C.tr false (T.int IntKind.i64 m.c.chunks), C.tr false (T.int IntKind.i64 m.c.size), C.tr false (T.int IntKind.i64 m.c.slots), C.tr false (T.int IntKind.i64 m.c.tax), C.tr false (T.int IntKind.i64 m.c.slice), C.tr false (T.int IntKind.i64 m.c.gens), C.tr false (T.arr 11 m.rooms.length (atL Rm.cs m.rooms)), C.tr false (T.arr 1 m.log.length (atL rowI m.log))]), (0, true, [C.tr false (T.int IntKind.i64 h.slot), C.tr false (T.int IntKind.i64 h.gen)])] = true := dom_ea (ea := ea_sRsv) (x := (m, h)) h0
theorem iv_sRsv {m : Ml} {h : Hd} (h0 : ok_sRsv (m, h)) : inv ok_sRsv ea_sRsv [(0, true, [C.tr false (T.int IntKind.i64 m.c.chunks), C.tr false (T.int IntKind.i64 m.c.size), C.tr false (T.int IntKind.i64 m.c.slots), C.tr false (T.int IntKind.i64 m.c.tax), C.tr false (T.int IntKind.i64 m.c.slice), C.tr false (T.int IntKind.i64 m.c.gens), C.tr false (T.arr 11 m.rooms.length (atL Rm.cs m.rooms)), C.tr false (T.arr 1 m.log.length (atL rowI m.log))]), (0, true, [C.tr false (T.int IntKind.i64 h.slot), C.tr false (T.int IntKind.i64 h.gen)])] = (m, h) := inv_ea ea_sRsv_inj (x := (m, h)) h0
theorem d_sRsv (m : Ml) (h : Hd) : f_sRsv (m, h) = rsv m h := rfl
def i_sRsv : Nat := 52
noncomputable abbrev F_sRsv : Func := f52
def kp_sRsv : List (Nat × List Nat) := [(0, [8, 9, 12, 13]), (1, [8, 9, 12, 13, 36]), (2, [16, 20]), (3, [24]), (4, [24, 56]), (5, [16, 20]), (6, [16, 20])]
theorem pre_sRsv (m : Ml) (h : Hd) (n : Nat) : body prog (tabS [(i_sHOk, e_sHOk), (i_sRoomOf, e_sRoomOf)]) kp_sRsv n F_sRsv [aR m.cs, aR h.cs] = (
 bif decide (0 ≤ h.1) then
  bif !decide (1 ≤ h.2) then
   some ([(false, [.tr true (T.int IntKind.i64 (-1))]), (false, [.tr true (T.int IntKind.i64 1)])], [(false, []), (false, [])])
  else
  entK ok_sRoomOf ea_sRoomOf (f_sRoomOf) [(0, true,
    [C.tr false (T.int IntKind.i64 m.c.1), C.tr false (T.int IntKind.i64 m.c.2),
      C.tr false (T.int IntKind.i64 m.c.3), C.tr false (T.int IntKind.i64 m.c.4),
      C.tr false (T.int IntKind.i64 m.c.5), C.tr false (T.int IntKind.i64 m.c.6), C.tr false (eL 11 Rm.cs m.2),
      C.tr false (eL 1 rowI m.3)]),
  (0, true, [C.tr false (T.int IntKind.i64 h.1), C.tr false (T.int IntKind.i64 h.2)])] fun (r1 : Int) =>
  bif decide (r1 < 0) then
   some ([(false, [.tr true (T.int IntKind.i64 (-1))]), (false, [.tr true (T.int IntKind.i64 2)])], [(false, []), (false, [])])
  else
  some ([(false, [.tr true (T.int IntKind.i64 r1)]), (false, [.tr true (T.int IntKind.i64 0)])], [(false, []), (false, [])])
 else
 some ([(false, [.tr true (T.int IntKind.i64 (-1))]), (false, [.tr true (T.int IntKind.i64 1)])], [(false, []), (false, [])])) := by kernel_rfl
end Go.Mach.F
namespace Go.Mach.F
open Go Go.Mach Go.Proofs.Try
theorem body_iRsv (m : Ml) (h : Hd) (n : Nat) (h0 : ok_iRsv (m, h)) : body prog (tabS [(i_iHOk, e_iHOk), (i_iRoomOf, e_iRoomOf)]) kp_iRsv n F_iRsv (ea_iRsv (m, h)) = some ([oT (.int .i64 (f_iRsv (m, h)).1), oT (.int .i64 (f_iRsv (m, h)).2)], [nul, nul]) := by
  have c0 : ok_iRoomOf (m, h) := h0
  unfold ea_iRsv f_iRsv rsv hOk
  dsimp only
  rw [pre_iRsv]
  by_cases a1 : 0 ≤ h.slot
  case neg =>
    simp only [a1, decide_false, cond_false, Bool.false_and]
    rfl
  by_cases a2 : 1 ≤ h.gen
  case neg =>
    simp only [a1, a2, decide_true, decide_false, cond_true, cond_false, Bool.and_false, Bool.not_false]
    rfl
  simp only [a1, a2, decide_true, cond_true, Bool.and_self, Bool.not_true, cond_false, eL_T, Ml.cs, Hd.cs]
  rw [entK_of (dm_iRoomOf c0) (iv_iRoomOf c0)]
  simp only [d_iRoomOf]
  by_cases e : rof m.rooms h < 0
  · simp only [e, decide_true, cond_true]
    rfl
  · simp only [e, decide_false, cond_false]
    rfl
theorem s_iRsv : EntOk prog i_iRsv e_iRsv := ent_ok ea_iRsv_inj fun x hx =>
  body_sound (φ := (tabS [(i_iHOk, e_iHOk), (i_iRoomOf, e_iRoomOf)])) (tabS_cons s_iHOk (tabS_cons s_iRoomOf tabS_nil)) mixed (kp := kp_iRsv) (n := 0) func59 (c := bodyOf F_iRsv) (by kernel_rfl) (body_iRsv x.1 x.2 (0) hx) (name_ok (by kernel_rfl))
theorem body_sRsv (m : Ml) (h : Hd) (n : Nat) (h0 : ok_sRsv (m, h)) : body prog (tabS [(i_sHOk, e_sHOk), (i_sRoomOf, e_sRoomOf)]) kp_sRsv n F_sRsv (ea_sRsv (m, h)) = some ([oT (.int .i64 (f_sRsv (m, h)).1), oT (.int .i64 (f_sRsv (m, h)).2)], [nul, nul]) := by
  have c0 : ok_sRoomOf (m, h) := h0
  unfold ea_sRsv f_sRsv rsv hOk
  dsimp only
  rw [pre_sRsv]
  by_cases a1 : 0 ≤ h.slot
  case neg =>
    simp only [a1, decide_false, cond_false, Bool.false_and]
    rfl
  by_cases a2 : 1 ≤ h.gen
  case neg =>
    simp only [a1, a2, decide_true, decide_false, cond_true, cond_false, Bool.and_false, Bool.not_false]
    rfl
  simp only [a1, a2, decide_true, cond_true, Bool.and_self, Bool.not_true, cond_false, eL_T, Ml.cs, Hd.cs]
  rw [entK_of (dm_sRoomOf c0) (iv_sRoomOf c0)]
  simp only [d_sRoomOf]
  by_cases e : rof m.rooms h < 0
  · simp only [e, decide_true, cond_true]
    rfl
  · simp only [e, decide_false, cond_false]
    rfl
theorem s_sRsv : EntOk prog i_sRsv e_sRsv := ent_ok ea_sRsv_inj fun x hx =>
  body_sound (φ := (tabS [(i_sHOk, e_sHOk), (i_sRoomOf, e_sRoomOf)])) (tabS_cons s_sHOk (tabS_cons s_sRoomOf tabS_nil)) mixed (kp := kp_sRsv) (n := 0) func52 (c := bodyOf F_sRsv) (by kernel_rfl) (body_sRsv x.1 x.2 (0) hx) (name_ok (by kernel_rfl))
end Go.Mach.F
namespace Go.Mach.F
open Go Go.Mach Go.Proofs.Try
--=set_option maxRecDepth 100000
def ok_iModel (x : Ml) : Prop := ok_RmS x.rooms ∧ ok_LI x.log
def ea_iModel (x : Ml) : List Arg := [aR x.cs]
def f_iModel (x : Ml) : Ml := x
noncomputable def e_iModel : Ent := ent [] ok_iModel ea_iModel (fun m => erR 1 m.cs) f_iModel
theorem ea_iModel_inj (x y : Ml) (h : ea_iModel x = ea_iModel y) : x = y := by
  simp only [ea_iModel, List.cons.injEq, and_true, true_and] at h
  exact Ml.cs_ext (aR_inj h)
theorem dm_iModel {m : Ml} (h : ok_iModel m) : dom ok_iModel ea_iModel [(0, true, [C.tr false (T.int IntKind.i64 m.c.chunks), C.tr false (T.int IntKind.i64 m.c.size), C.tr false (T.int IntKind.i64 m.c.slots), C.tr false (T.int IntKind.i64 m.c.tax), C.tr false (T.int IntKind.i64 m.c.slice), C.tr false (T.int IntKind.i64 m.c.gens), C.tr false (T.arr 11 m.rooms.length (atL Rm.cs m.rooms)), C.tr false (T.arr 1 m.log.length (atL rowI m.log))])] = true := dom_ea (ea := ea_iModel) (x := m) h
theorem iv_iModel {m : Ml} (h : ok_iModel m) : inv ok_iModel ea_iModel [(0, true, [C.tr false (T.int IntKind.i64 m.c.chunks), C.tr false (T.int IntKind.i64 m.c.size), C.tr false (T.int IntKind.i64 m.c.slots), C.tr false (T.int IntKind.i64 m.c.tax), C.tr false (T.int IntKind.i64 m.c.slice), C.tr false (T.int IntKind.i64 m.c.gens), C.tr false (T.arr 11 m.rooms.length (atL Rm.cs m.rooms)), C.tr false (T.arr 1 m.log.length (atL rowI m.log))])] = m := inv_ea ea_iModel_inj (x := m) h
theorem d_iModel (m : Ml) : f_iModel m = m := rfl
def i_iModel : Nat := 58
noncomputable abbrev F_iModel : Func := f58
def kp_iModel : List (Nat × List Nat) := [(0, [4, 5, 8, 9, 12, 13, 28, 40, 44, 108]), (1, [4, 5, 8, 9, 12, 13, 28, 40, 44, 108]), (2, [4, 5, 8, 9, 12, 13, 28, 40, 44, 48, 52, 56, 60, 108]), (3, [4, 5, 8, 9, 12, 13, 28, 40, 44, 48, 52, 56, 60, 64, 108]), (4, [4, 5, 8, 9, 12, 13, 20, 21, 28, 40, 44, 48, 52, 56, 60, 68, 72, 108]), (5, [4, 5, 8, 9, 12, 13, 28, 40, 44, 48, 52, 56, 60, 108]), (6, [4, 5, 8, 9, 12, 13, 28, 40, 44, 48, 52, 56, 60, 108]), (7, [8, 9, 12, 13, 28, 40, 44, 108])]
def ts_iModel : List Nat := [0]
def st_iModel_1 (m : Ml) (r1 : List Int) (nx13_6 : Nat) (fx13_6 : Nat → Nat → T) (x60 : Int) : St := [(4, ⟨z0, [(false, [(C.pt (Pt.ptr 5 0 [] 8 0 0))])]⟩), (5, ⟨z0, [(true, [.tr true (T.int IntKind.i64 m.c.1), .tr true (T.int IntKind.i64 m.c.2), .tr true (T.int IntKind.i64 m.c.3), .tr true (T.int IntKind.i64 m.c.4), .tr true (T.int IntKind.i64 m.c.5), .tr true (T.int IntKind.i64 m.c.6), .tr false (eL 11 Rm.cs m.2), .tr false (eL 1 rowI m.3)])]⟩), (8, ⟨z0, [(false, [(C.pt (Pt.ptr 9 0 [] 8 0 0))])]⟩), (9, ⟨z0, [(true, [.tr true (T.int IntKind.i64 0), .tr true (T.int IntKind.i64 0), .tr true (T.int IntKind.i64 0), .tr true (T.int IntKind.i64 0), .tr true (T.int IntKind.i64 0), .tr true (T.int IntKind.i64 0), .tr true (.arr (11) (0) (fun x x_1 => T.hole)), .tr true (.arr (1) (0) (fun x x_1 => T.hole))])]⟩), (12, ⟨z0, [(false, [(C.pt (Pt.ptr 13 0 [] 8 0 0))])]⟩), (13, ⟨z0, [(true, [.tr true (T.int IntKind.i64 m.c.1), .tr true (T.int IntKind.i64 m.c.2), .tr true (T.int IntKind.i64 m.c.3), .tr true (T.int IntKind.i64 m.c.4), .tr true (T.int IntKind.i64 m.c.5), .tr true (T.int IntKind.i64 m.c.6), .tr true (.arr (11) (nx13_6) (fx13_6)), .tr true (.arr (1) (r1.length) (atL rowI r1))])]⟩), (28, ⟨z0, [(true, [.tr true (T.int IntKind.i64 m.c.1), .tr true (T.int IntKind.i64 m.c.2), .tr true (T.int IntKind.i64 m.c.3), .tr true (T.int IntKind.i64 m.c.4), .tr true (T.int IntKind.i64 m.c.5), .tr true (T.int IntKind.i64 m.c.6)])]⟩), (40, ⟨z0, [(false, [.tr true (T.hole)])]⟩), (44, ⟨z0, [(true, [.tr true (T.int IntKind.i64 m.c.1), .tr true (T.int IntKind.i64 m.c.2), .tr true (T.int IntKind.i64 m.c.3), .tr true (T.int IntKind.i64 m.c.4), .tr true (T.int IntKind.i64 m.c.5), .tr true (T.int IntKind.i64 m.c.6), .tr true (T.hole), .tr true (T.hole)])]⟩), (48, ⟨z0, [(false, [(C.pt (Pt.ptr 5 0 [] 8 0 6))])]⟩), (52, ⟨z0, [(false, [.tr false (eL 11 Rm.cs m.2)])]⟩), (56, ⟨z0, [(false, [.tr true (T.int IntKind.i64 (↑m.2.length : Int))])]⟩), (60, ⟨z0, [(false, [.tr true (T.int IntKind.i64 x60)])]⟩)]
def ex_iModel_1_1 (m : Ml) (r1 : List Int) (nx13_6 : Nat) (fx13_6 : Nat → Nat → T) (x60 : Int) : St := [(4, ⟨z0, [(false, [(C.pt (Pt.ptr 5 0 [] 8 0 0))])]⟩), (5, ⟨z0, [(true, [.tr true (T.int IntKind.i64 m.c.1), .tr true (T.int IntKind.i64 m.c.2), .tr true (T.int IntKind.i64 m.c.3), .tr true (T.int IntKind.i64 m.c.4), .tr true (T.int IntKind.i64 m.c.5), .tr true (T.int IntKind.i64 m.c.6), .tr false (eL 11 Rm.cs m.2), .tr false (eL 1 rowI m.3)])]⟩), (8, ⟨z0, [(false, [(C.pt (Pt.ptr 9 0 [] 8 0 0))])]⟩), (9, ⟨z0, [(true, [.tr true (T.int IntKind.i64 0), .tr true (T.int IntKind.i64 0), .tr true (T.int IntKind.i64 0), .tr true (T.int IntKind.i64 0), .tr true (T.int IntKind.i64 0), .tr true (T.int IntKind.i64 0), .tr true (.arr (11) (0) (fun x x_1 => T.hole)), .tr true (.arr (1) (0) (fun x x_1 => T.hole))])]⟩), (12, ⟨z0, [(false, [(C.pt (Pt.ptr 13 0 [] 8 0 0))])]⟩), (13, ⟨z0, [(true, [.tr true (T.int IntKind.i64 m.c.1), .tr true (T.int IntKind.i64 m.c.2), .tr true (T.int IntKind.i64 m.c.3), .tr true (T.int IntKind.i64 m.c.4), .tr true (T.int IntKind.i64 m.c.5), .tr true (T.int IntKind.i64 m.c.6), .tr true (.arr (11) (nx13_6) (fx13_6)), .tr true (.arr (1) (r1.length) (atL rowI r1))])]⟩), (28, ⟨z0, [(true, [.tr true (T.int IntKind.i64 m.c.1), .tr true (T.int IntKind.i64 m.c.2), .tr true (T.int IntKind.i64 m.c.3), .tr true (T.int IntKind.i64 m.c.4), .tr true (T.int IntKind.i64 m.c.5), .tr true (T.int IntKind.i64 m.c.6)])]⟩), (40, ⟨z0, [(false, [.tr true (T.hole)])]⟩), (44, ⟨z0, [(true, [.tr true (T.int IntKind.i64 m.c.1), .tr true (T.int IntKind.i64 m.c.2), .tr true (T.int IntKind.i64 m.c.3), .tr true (T.int IntKind.i64 m.c.4), .tr true (T.int IntKind.i64 m.c.5), .tr true (T.int IntKind.i64 m.c.6), .tr true (T.hole), .tr true (T.hole)])]⟩), (48, ⟨z0, [(false, [(C.pt (Pt.ptr 5 0 [] 8 0 6))])]⟩), (52, ⟨z0, [(false, [.tr false (eL 11 Rm.cs m.2)])]⟩), (56, ⟨z0, [(false, [.tr true (T.int IntKind.i64 (↑m.2.length : Int))])]⟩), (60, ⟨z0, [(false, [.tr true (T.int IntKind.i64 x60)])]⟩), (64, ⟨z0, []⟩)]
theorem round_iModel_1 (m : Ml) (r1 : List Int) (nx13_6 : Nat) (fx13_6 : Nat → Nat → T) (x60 : Int) (n : Nat) (K : Ex → St → Res) : roundAt prog (tabS [(i_iRoom, e_iRoom), (i_clI, e_clI)]) kp_iModel F_iModel [1, 1, 0, 1, 0] n (st_iModel_1 m r1 nx13_6 fx13_6 x60) K = (
 bif decide (x60 < (↑m.2.length : Int)) then
  gd (decide (0 ≤ x60) && (x60.toNat.blt m.2.length && true)) <|
  gd (T.isI IntKind.i64 (atL Rm.cs m.2 x60.toNat 0) && T.isI IntKind.i64 (atL Rm.cs m.2 x60.toNat 1) &&
                  T.isI IntKind.i64 (atL Rm.cs m.2 x60.toNat 2) &&
                T.isI IntKind.i64 (atL Rm.cs m.2 x60.toNat 3) &&
              ((atL Rm.cs m.2 x60.toNat 4).isArr && (atL Rm.cs m.2 x60.toNat 4).wd.beq 2) &&
            T.isI IntKind.i64 (atL Rm.cs m.2 x60.toNat 5) &&
          T.isI IntKind.i64 (atL Rm.cs m.2 x60.toNat 6) &&
        (atL Rm.cs m.2 x60.toNat 7).isB &&
      T.isI IntKind.i64 (atL Rm.cs m.2 x60.toNat 8) &&
    ((atL Rm.cs m.2 x60.toNat 9).isArr && (atL Rm.cs m.2 x60.toNat 9).wd.beq 1) &&
  ((atL Rm.cs m.2 x60.toNat 10).isArr && (atL Rm.cs m.2 x60.toNat 10).wd.beq 1)) <|
  entK ok_iRoom ea_iRoom (f_iRoom) [(0, true,
    [C.tr false (T.int IntKind.i64 (atL Rm.cs m.2 x60.toNat 0).toI),
      C.tr false (T.int IntKind.i64 (atL Rm.cs m.2 x60.toNat 1).toI),
      C.tr false (T.int IntKind.i64 (atL Rm.cs m.2 x60.toNat 2).toI),
      C.tr false (T.int IntKind.i64 (atL Rm.cs m.2 x60.toNat 3).toI),
      C.tr false (T.arr 2 (atL Rm.cs m.2 x60.toNat 4).ln (atL Rm.cs m.2 x60.toNat 4).fn),
      C.tr false (T.int IntKind.i64 (atL Rm.cs m.2 x60.toNat 5).toI),
      C.tr false (T.int IntKind.i64 (atL Rm.cs m.2 x60.toNat 6).toI),
      C.tr false (T.bool (atL Rm.cs m.2 x60.toNat 7).toB),
      C.tr false (T.int IntKind.i64 (atL Rm.cs m.2 x60.toNat 8).toI),
      C.tr false (T.arr 1 (atL Rm.cs m.2 x60.toNat 9).ln (atL Rm.cs m.2 x60.toNat 9).fn),
      C.tr false (T.arr 1 (atL Rm.cs m.2 x60.toNat 10).ln (atL Rm.cs m.2 x60.toNat 10).fn)])] fun (r2 : Rm) =>
  gd (r2.3.length.ble r2.3.length && true) <|
  gd (r2.8.length.ble r2.8.length && true) <|
  gd (r2.9.length.ble r2.9.length && true) <|
  gd (nx13_6.ble nx13_6 && true) <|
  gd (((nx13_6 + 1) * 136).ble 70368744177664 && (nx13_6 + 1).ble 70368744177664) <|
  gd ((nx13_6 + 1).ble (nx13_6 + 1) && true) <|
  K .normal (st_iModel_1 m r1 (nx13_6 + 1) (appF nx13_6 fx13_6
  (rowsT
    [[T.int IntKind.i64 r2.h.1, T.int IntKind.i64 r2.h.2, T.int IntKind.i64 r2.up.1,
        T.int IntKind.i64 r2.up.2, T.arr 2 r2.3.length (eL 2 Hd.cs r2.3).fn,
        T.int IntKind.i64 r2.4, T.int IntKind.i64 r2.5, T.bool r2.6, T.int IntKind.i64 r2.7,
        T.arr 1 r2.8.length (eL 1 Sf.cs r2.8).fn, T.arr 1 r2.9.length (eL 1 rowI r2.9).fn]])) (IntKind.i64.wrap (x60 + 1)))
 else
 K (.exit 0) (ex_iModel_1_1 m r1 nx13_6 fx13_6 x60)) := by kernel_rfl
theorem post_iModel_1_1 (m : Ml) (r1 : List Int) (nx13_6 : Nat) (fx13_6 : Nat → Nat → T) (x60 : Int) (n : Nat) : contAt prog (tabS [(i_iRoom, e_iRoom), (i_clI, e_clI)]) kp_iModel F_iModel ts_iModel [1, 1, 0, 1, 0] [] n (.exit 0) (ex_iModel_1_1 m r1 nx13_6 fx13_6 x60) = (
 gd (nx13_6.ble nx13_6 && true) <|
 gd (r1.length.ble r1.length && true) <|
 gd (nx13_6.ble nx13_6 && true) <|
 gd (r1.length.ble r1.length && true) <|
 some ([(true, [.tr true (T.int IntKind.i64 m.c.1), .tr true (T.int IntKind.i64 m.c.2), .tr true (T.int IntKind.i64 m.c.3), .tr true (T.int IntKind.i64 m.c.4), .tr true (T.int IntKind.i64 m.c.5), .tr true (T.int IntKind.i64 m.c.6), .tr true (.arr (11) (nx13_6) (fx13_6)), .tr true (.arr (1) (r1.length) (atL rowI r1))])], [(false, [])])) := by kernel_rfl
theorem pre_iModel (m : Ml) (n : Nat) : body prog (tabS [(i_iRoom, e_iRoom), (i_clI, e_clI)]) kp_iModel n F_iModel [aR m.cs] = (
 entK ok_clI ea_clI (f_clI) [(0, false, [C.tr false (eL 1 rowI m.3)])] fun (r1 : List Int) =>
 gd (r1.length.ble r1.length && true) <|
 gd (r1.length.ble r1.length && true) <|
 loopAt prog (tabS [(i_iRoom, e_iRoom), (i_clI, e_clI)]) kp_iModel F_iModel [1, 1, 0, 1, 0] n n (st_iModel_1 m r1 (0) (fun x x_1 => T.hole) (0)) (contAt prog (tabS [(i_iRoom, e_iRoom), (i_clI, e_clI)]) kp_iModel F_iModel ts_iModel [1, 1, 0, 1, 0] [] n)) := by kernel_rfl
def ok_sModel (x : Ml) : Prop := ok_RmS x.rooms ∧ ok_LI x.log
def ea_sModel (x : Ml) : List Arg := [aR x.cs]
def f_sModel (x : Ml) : Ml := x
noncomputable def e_sModel : Ent := ent [] ok_sModel ea_sModel (fun m => erR 1 m.cs) f_sModel
theorem ea_sModel_inj (x y : Ml) (h : ea_sModel x = ea_sModel y) : x = y := by
  simp only [ea_sModel, List.cons.injEq, and_true, true_and] at h
  exact Ml.cs_ext (aR_inj h)
theorem dm_sModel {m : Ml} (h : ok_sModel m) : dom ok_sModel ea_sModel [(0, true, [C.tr false (T.int IntKind.i64 m.c.chunks), C.tr false (T.int IntKind.i64 m.c.size), C.tr false (T.int IntKind.i64 m.c.slots), C.tr false (T.int IntKind.i64 m.c.tax), C.tr false (T.int IntKind.i64 m.c.slice), C.tr false (T.int IntKind.i64 m.c.gens), C.tr false (T.arr 11 m.rooms.length (atL Rm.cs m.rooms)), C.tr false (T.arr 1 m.log.length (atL rowI m.log))])] = true := dom_ea (ea := ea_sModel) (x := m) h
theorem iv_sModel {m : Ml} (h : ok_sModel m) : inv ok_sModel ea_sModel [(0, true, [C.tr false (T.int IntKind.i64 m.c.chunks), C.tr false (T.int IntKind.i64 m.c.size), C.tr false (T.int IntKind.i64 m.c.slots), C.tr false (T.int IntKind.i64 m.c.tax), C.tr false (T.int IntKind.i64 m.c.slice), C.tr false (T.int IntKind.i64 m.c.gens), C.tr false (T.arr 11 m.rooms.length (atL Rm.cs m.rooms)), C.tr false (T.arr 1 m.log.length (atL rowI m.log))])] = m := inv_ea ea_sModel_inj (x := m) h
theorem d_sModel (m : Ml) : f_sModel m = m := rfl
def i_sModel : Nat := 51
noncomputable abbrev F_sModel : Func := f51
def kp_sModel : List (Nat × List Nat) := [(0, [4, 5, 8, 9, 12, 13, 28, 32, 36, 40, 44, 48, 52, 132]), (1, [4, 5, 8, 9, 12, 13, 28, 32, 36, 40, 44, 48, 52, 132]), (2, [4, 5, 8, 9, 12, 13, 16, 28, 32, 36, 40, 44, 48, 52, 132]), (3, [4, 5, 8, 9, 12, 13, 16, 28, 32, 36, 40, 44, 48, 52, 72, 132]), (4, [4, 5, 8, 9, 12, 13, 16, 28, 32, 36, 40, 44, 48, 52, 132]), (5, [4, 5, 8, 9, 12, 13, 16, 20, 21, 28, 32, 36, 40, 44, 48, 52, 104, 132]), (6, [4, 5, 8, 9, 12, 13, 16, 28, 32, 36, 40, 44, 48, 52, 132]), (7, [4, 5, 8, 9, 12, 13, 28, 32, 36, 40, 44, 48, 52, 132])]
def ts_sModel : List Nat := [0]
def st_sModel_1 (m : Ml) (nx13_6 : Nat) (fx13_6 : Nat → Nat → T) (x16 : Int) : St := [(4, ⟨z0, [(false, [(C.pt (Pt.ptr 5 0 [] 8 0 0))])]⟩), (5, ⟨z0, [(true, [.tr true (T.int IntKind.i64 m.c.1), .tr true (T.int IntKind.i64 m.c.2), .tr true (T.int IntKind.i64 m.c.3), .tr true (T.int IntKind.i64 m.c.4), .tr true (T.int IntKind.i64 m.c.5), .tr true (T.int IntKind.i64 m.c.6), .tr false (eL 11 Rm.cs m.2), .tr false (eL 1 rowI m.3)])]⟩), (8, ⟨z0, [(false, [(C.pt (Pt.ptr 9 0 [] 8 0 0))])]⟩), (9, ⟨z0, [(true, [.tr true (T.int IntKind.i64 0), .tr true (T.int IntKind.i64 0), .tr true (T.int IntKind.i64 0), .tr true (T.int IntKind.i64 0), .tr true (T.int IntKind.i64 0), .tr true (T.int IntKind.i64 0), .tr true (.arr (11) (0) (fun x x_1 => T.hole)), .tr true (.arr (1) (0) (fun x x_1 => T.hole))])]⟩), (12, ⟨z0, [(false, [(C.pt (Pt.ptr 13 0 [] 8 0 0))])]⟩), (13, ⟨z0, [(true, [.tr true (T.int IntKind.i64 m.c.1), .tr true (T.int IntKind.i64 m.c.2), .tr true (T.int IntKind.i64 m.c.3), .tr true (T.int IntKind.i64 m.c.4), .tr true (T.int IntKind.i64 m.c.5), .tr true (T.int IntKind.i64 m.c.6), .tr true (.arr (11) (nx13_6) (fx13_6)), .tr true (.arr (1) (0 + m.3.length) (appF 0 (rowsT []) (plainF (atL rowI m.3))))])]⟩), (16, ⟨z0, [(false, [.tr true (T.int IntKind.i64 x16)])]⟩), (28, ⟨z0, [(true, [.tr true (T.int IntKind.i64 m.c.1), .tr true (T.int IntKind.i64 m.c.2), .tr true (T.int IntKind.i64 m.c.3), .tr true (T.int IntKind.i64 m.c.4), .tr true (T.int IntKind.i64 m.c.5), .tr true (T.int IntKind.i64 m.c.6)])]⟩), (32, ⟨z0, [(false, [.tr true (T.hole)])]⟩), (36, ⟨z0, [(false, [.tr true (T.hole)])]⟩), (40, ⟨z0, [(false, [(C.pt (Pt.ptr 5 0 [] 8 0 7))])]⟩), (44, ⟨z0, [(false, [.tr false (eL 1 rowI m.3)])]⟩), (48, ⟨z0, [(false, [.tr true (T.hole)])]⟩), (52, ⟨z0, [(true, [.tr true (T.int IntKind.i64 m.c.1), .tr true (T.int IntKind.i64 m.c.2), .tr true (T.int IntKind.i64 m.c.3), .tr true (T.int IntKind.i64 m.c.4), .tr true (T.int IntKind.i64 m.c.5), .tr true (T.int IntKind.i64 m.c.6), .tr true (T.hole), .tr true (T.hole)])]⟩)]
def ex_sModel_1_1 (m : Ml) (nx13_6 : Nat) (fx13_6 : Nat → Nat → T) (x16 : Int) : St := [(4, ⟨z0, [(false, [(C.pt (Pt.ptr 5 0 [] 8 0 0))])]⟩), (5, ⟨z0, [(true, [.tr true (T.int IntKind.i64 m.c.1), .tr true (T.int IntKind.i64 m.c.2), .tr true (T.int IntKind.i64 m.c.3), .tr true (T.int IntKind.i64 m.c.4), .tr true (T.int IntKind.i64 m.c.5), .tr true (T.int IntKind.i64 m.c.6), .tr false (eL 11 Rm.cs m.2), .tr false (eL 1 rowI m.3)])]⟩), (8, ⟨z0, [(false, [(C.pt (Pt.ptr 9 0 [] 8 0 0))])]⟩), (9, ⟨z0, [(true, [.tr true (T.int IntKind.i64 0), .tr true (T.int IntKind.i64 0), .tr true (T.int IntKind.i64 0), .tr true (T.int IntKind.i64 0), .tr true (T.int IntKind.i64 0), .tr true (T.int IntKind.i64 0), .tr true (.arr (11) (0) (fun x x_1 => T.hole)), .tr true (.arr (1) (0) (fun x x_1 => T.hole))])]⟩), (12, ⟨z0, [(false, [(C.pt (Pt.ptr 13 0 [] 8 0 0))])]⟩), (13, ⟨z0, [(true, [.tr true (T.int IntKind.i64 m.c.1), .tr true (T.int IntKind.i64 m.c.2), .tr true (T.int IntKind.i64 m.c.3), .tr true (T.int IntKind.i64 m.c.4), .tr true (T.int IntKind.i64 m.c.5), .tr true (T.int IntKind.i64 m.c.6), .tr true (.arr (11) (nx13_6) (fx13_6)), .tr true (.arr (1) (0 + m.3.length) (appF 0 (rowsT []) (plainF (atL rowI m.3))))])]⟩), (16, ⟨z0, [(false, [.tr true (T.int IntKind.i64 x16)])]⟩), (28, ⟨z0, [(true, [.tr true (T.int IntKind.i64 m.c.1), .tr true (T.int IntKind.i64 m.c.2), .tr true (T.int IntKind.i64 m.c.3), .tr true (T.int IntKind.i64 m.c.4), .tr true (T.int IntKind.i64 m.c.5), .tr true (T.int IntKind.i64 m.c.6)])]⟩), (32, ⟨z0, [(false, [.tr true (T.hole)])]⟩), (36, ⟨z0, [(false, [.tr true (T.hole)])]⟩), (40, ⟨z0, [(false, [(C.pt (Pt.ptr 5 0 [] 8 0 7))])]⟩), (44, ⟨z0, [(false, [.tr false (eL 1 rowI m.3)])]⟩), (48, ⟨z0, [(false, [.tr true (T.hole)])]⟩), (52, ⟨z0, [(true, [.tr true (T.int IntKind.i64 m.c.1), .tr true (T.int IntKind.i64 m.c.2), .tr true (T.int IntKind.i64 m.c.3), .tr true (T.int IntKind.i64 m.c.4), .tr true (T.int IntKind.i64 m.c.5), .tr true (T.int IntKind.i64 m.c.6), .tr true (T.hole), .tr true (T.hole)])]⟩), (72, ⟨z0, []⟩)]
theorem round_sModel_1 (m : Ml) (nx13_6 : Nat) (fx13_6 : Nat → Nat → T) (x16 : Int) (n : Nat) (K : Ex → St → Res) : roundAt prog (tabS [(i_sRoom, e_sRoom)]) kp_sModel F_sModel [1, 1, 0, 1, 0] n (st_sModel_1 m nx13_6 fx13_6 x16) K = (
 bif decide (x16 < (↑m.2.length : Int)) then
  gd (decide (0 ≤ x16) && (x16.toNat.blt m.2.length && true)) <|
  gd (T.isI IntKind.i64 (atL Rm.cs m.2 x16.toNat 0) && T.isI IntKind.i64 (atL Rm.cs m.2 x16.toNat 1) &&
                  T.isI IntKind.i64 (atL Rm.cs m.2 x16.toNat 2) &&
                T.isI IntKind.i64 (atL Rm.cs m.2 x16.toNat 3) &&
              ((atL Rm.cs m.2 x16.toNat 4).isArr && (atL Rm.cs m.2 x16.toNat 4).wd.beq 2) &&
            T.isI IntKind.i64 (atL Rm.cs m.2 x16.toNat 5) &&
          T.isI IntKind.i64 (atL Rm.cs m.2 x16.toNat 6) &&
        (atL Rm.cs m.2 x16.toNat 7).isB &&
      T.isI IntKind.i64 (atL Rm.cs m.2 x16.toNat 8) &&
    ((atL Rm.cs m.2 x16.toNat 9).isArr && (atL Rm.cs m.2 x16.toNat 9).wd.beq 1) &&
  ((atL Rm.cs m.2 x16.toNat 10).isArr && (atL Rm.cs m.2 x16.toNat 10).wd.beq 1)) <|
  entK ok_sRoom ea_sRoom (f_sRoom) [(0, true,
    [C.tr false (T.int IntKind.i64 (atL Rm.cs m.2 x16.toNat 0).toI),
      C.tr false (T.int IntKind.i64 (atL Rm.cs m.2 x16.toNat 1).toI),
      C.tr false (T.int IntKind.i64 (atL Rm.cs m.2 x16.toNat 2).toI),
      C.tr false (T.int IntKind.i64 (atL Rm.cs m.2 x16.toNat 3).toI),
      C.tr false (T.arr 2 (atL Rm.cs m.2 x16.toNat 4).ln (atL Rm.cs m.2 x16.toNat 4).fn),
      C.tr false (T.int IntKind.i64 (atL Rm.cs m.2 x16.toNat 5).toI),
      C.tr false (T.int IntKind.i64 (atL Rm.cs m.2 x16.toNat 6).toI),
      C.tr false (T.bool (atL Rm.cs m.2 x16.toNat 7).toB),
      C.tr false (T.int IntKind.i64 (atL Rm.cs m.2 x16.toNat 8).toI),
      C.tr false (T.arr 1 (atL Rm.cs m.2 x16.toNat 9).ln (atL Rm.cs m.2 x16.toNat 9).fn),
      C.tr false (T.arr 1 (atL Rm.cs m.2 x16.toNat 10).ln (atL Rm.cs m.2 x16.toNat 10).fn)])] fun (r1 : Rm) =>
  gd (r1.3.length.ble r1.3.length && true) <|
  gd (r1.8.length.ble r1.8.length && true) <|
  gd (r1.9.length.ble r1.9.length && true) <|
  gd (r1.3.length.ble r1.3.length && true) <|
  gd (r1.8.length.ble r1.8.length && true) <|
  gd (r1.9.length.ble r1.9.length && true) <|
  gd (nx13_6.ble nx13_6 && true) <|
  gd (((nx13_6 + 1) * 136).ble 70368744177664 && (nx13_6 + 1).ble 70368744177664) <|
  gd ((nx13_6 + 1).ble (nx13_6 + 1) && true) <|
  K .normal (st_sModel_1 m (nx13_6 + 1) (appF nx13_6 fx13_6
  (rowsT
    [[T.int IntKind.i64 r1.h.1, T.int IntKind.i64 r1.h.2, T.int IntKind.i64 r1.up.1,
        T.int IntKind.i64 r1.up.2, T.arr 2 r1.3.length (eL 2 Hd.cs r1.3).fn,
        T.int IntKind.i64 r1.4, T.int IntKind.i64 r1.5, T.bool r1.6, T.int IntKind.i64 r1.7,
        T.arr 1 r1.8.length (eL 1 Sf.cs r1.8).fn, T.arr 1 r1.9.length (eL 1 rowI r1.9).fn]])) (IntKind.i64.wrap (x16 + 1)))
 else
 K (.exit 0) (ex_sModel_1_1 m nx13_6 fx13_6 x16)) := by kernel_rfl
theorem post_sModel_1_1 (m : Ml) (nx13_6 : Nat) (fx13_6 : Nat → Nat → T) (x16 : Int) (n : Nat) : contAt prog (tabS [(i_sRoom, e_sRoom)]) kp_sModel F_sModel ts_sModel [1, 1, 0, 1, 0] [] n (.exit 0) (ex_sModel_1_1 m nx13_6 fx13_6 x16) = (
 gd (nx13_6.ble nx13_6 && true) <|
 gd ((0 + m.3.length).ble (0 + m.3.length) && true) <|
 gd (nx13_6.ble nx13_6 && true) <|
 gd ((0 + m.3.length).ble (0 + m.3.length) && true) <|
 some ([(true, [.tr true (T.int IntKind.i64 m.c.1), .tr true (T.int IntKind.i64 m.c.2), .tr true (T.int IntKind.i64 m.c.3), .tr true (T.int IntKind.i64 m.c.4), .tr true (T.int IntKind.i64 m.c.5), .tr true (T.int IntKind.i64 m.c.6), .tr true (.arr (11) (nx13_6) (fx13_6)), .tr true (.arr (1) (0 + m.3.length) (appF 0 (rowsT []) (plainF (atL rowI m.3))))])], [(false, [])])) := by kernel_rfl
theorem pre_sModel (m : Ml) (n : Nat) : body prog (tabS [(i_sRoom, e_sRoom)]) kp_sModel n F_sModel [aR m.cs] = (
 gd (((0 + m.3.length) * 8).ble 70368744177664 && (0 + m.3.length).ble 70368744177664) <|
 gd ((0 + m.3.length).ble (0 + m.3.length) && true) <|
 gd ((0 + m.3.length).ble (0 + m.3.length) && true) <|
 loopAt prog (tabS [(i_sRoom, e_sRoom)]) kp_sModel F_sModel [1, 1, 0, 1, 0] n n (st_sModel_1 m (0) (rowsT []) (0)) (contAt prog (tabS [(i_sRoom, e_sRoom)]) kp_sModel F_sModel ts_sModel [1, 1, 0, 1, 0] [] n)) := by kernel_rfl
end Go.Mach.F
namespace Go.Mach.F
open Go Go.Mach Go.Proofs.Try
theorem body_iModel (m : Ml) (h : ok_iModel m) : body prog (tabS [(i_iRoom, e_iRoom), (i_clI, e_clI)]) kp_iModel (m.rooms.length + 1) F_iModel (ea_iModel m) = some (erR 1 (f_iModel m).cs) := by
  have hlm := lm
  obtain ⟨h0, h2⟩ : ok_RmS m.rooms ∧ ok_LI m.log := h
  have hl : m.rooms.length ≤ LM := h0.1
  have ht : m.log.length ≤ LM := h2
  unfold ea_iModel f_iModel
  rw [pre_iModel]
  have c1 : ok_clI m.log := h2
  simp only [eL_T, Ml.cs]
  rw [entK_of (dm_clI c1) (iv_clI c1)]
  simp only [d_clI, lt_d, ge0_d, Int.toNat_natCast, blt_d, ble_self, beq_self, decide_true, cond_true, Bool.and_self, Bool.and_true, Bool.true_and, gd_true, Nat.zero_add, List.getD_cons_zero, List.getD_cons_succ, isI_int, toI_int, isB_bool, toB_bool, eL_T, arr_ln, arr_fn, arr_wd, arr_is, arr_get, ble_d, Nat.le_refl]
  have hst : st_iModel_1 m m.log 0 (fun _ _ => T.hole) 0 = (fun i : Nat => st_iModel_1 m m.log i (atL Rm.cs (m.rooms.take i)) (i : Nat)) 0 := by
    rfl
  rw [hst, forLoop m.rooms.length (fun i : Nat => st_iModel_1 m m.log i (atL Rm.cs (m.rooms.take i)) (i : Nat)) (ex_iModel_1_1 m m.log m.rooms.length (atL Rm.cs m.rooms) m.rooms.length) 0 (fun i K hi => ?_) (fun K => ?_) _ (Nat.le_refl _)]
  · rw [post_iModel_1_1]
    have e2 : appF 0 (rowsT []) (plainF (atL rowI m.log)) = atL rowI m.log := by rw [plain_I, app0]
    simp only [lt_d, ge0_d, Int.toNat_natCast, blt_d, ble_self, beq_self, decide_true, cond_true, Bool.and_self, Bool.and_true, Bool.true_and, gd_true, Nat.zero_add, List.getD_cons_zero, List.getD_cons_succ, isI_int, toI_int, isB_bool, toB_bool, eL_T, arr_ln, arr_fn, arr_wd, arr_is, arr_get, ble_d, Nat.le_refl, e2]
    rfl
  · have hx := List.getElem?_eq_getElem hi
    obtain ⟨x, hxe⟩ : ∃ x, x = m.rooms[i] := ⟨_, rfl⟩
    rw [← hxe] at hx
    have c0 : ok_iRoom x := h0.2 _ (List.mem_of_getElem? hx)
    rw [round_iModel_1, ← take_app Rm.cs hx]
    have hs : (i + 1) * 136 ≤ 70368744177664 := by omega
    have hs2 : i + 1 ≤ 70368744177664 := by omega
    simp (disch := omega) only [lt_d, ge0_d, Int.toNat_natCast, blt_d, ble_self, beq_self, decide_true, cond_true, Bool.and_self, Bool.and_true, Bool.true_and, gd_true, Nat.zero_add, List.getD_cons_zero, List.getD_cons_succ, isI_int, toI_int, isB_bool, toB_bool, eL_T, arr_ln, arr_fn, arr_wd, arr_is, arr_get, eL_T, hi, atL_of hx, Rm.cs, wrapS]
    rw [entK_of (dm_iRoom c0) (iv_iRoom c0)]
    simp only [lt_d, ge0_d, Int.toNat_natCast, blt_d, ble_self, beq_self, decide_true, cond_true, Bool.and_self, Bool.and_true, Bool.true_and, gd_true, Nat.zero_add, List.getD_cons_zero, List.getD_cons_succ, isI_int, toI_int, isB_bool, toB_bool, eL_T, arr_ln, arr_fn, arr_wd, arr_is, arr_get, eL_T, ble_d, Nat.le_refl, hs, hs2, d_iRoom]
  · rw [round_iModel_1]
    simp only [lt_d, Nat.lt_irrefl, decide_false, cond_false, List.take_length]
theorem s_iModel : EntOk prog i_iModel e_iModel := ent_ok ea_iModel_inj fun x hx =>
  body_sound (φ := (tabS [(i_iRoom, e_iRoom), (i_clI, e_clI)])) (tabS_cons s_iRoom (tabS_cons s_clI tabS_nil)) mixed (kp := kp_iModel) (n := x.rooms.length + 1) func58 (c := bodyOf F_iModel) (by kernel_rfl) (body_iModel x hx) (name_ok (by kernel_rfl))
theorem body_sModel (m : Ml) (h : ok_sModel m) : body prog (tabS [(i_sRoom, e_sRoom)]) kp_sModel (m.rooms.length + 1) F_sModel (ea_sModel m) = some (erR 1 (f_sModel m).cs) := by
  have hlm := lm
  obtain ⟨h0, h2⟩ : ok_RmS m.rooms ∧ ok_LI m.log := h
  have hl : m.rooms.length ≤ LM := h0.1
  have ht : m.log.length ≤ LM := h2
  unfold ea_sModel f_sModel
  rw [pre_sModel]
  have q3 : m.log.length * 8 ≤ 70368744177664 := by omega
  have q4 : m.log.length ≤ 70368744177664 := by omega
  simp only [lt_d, ge0_d, Int.toNat_natCast, blt_d, ble_self, beq_self, decide_true, cond_true, Bool.and_self, Bool.and_true, Bool.true_and, gd_true, Nat.zero_add, List.getD_cons_zero, List.getD_cons_succ, isI_int, toI_int, isB_bool, toB_bool, eL_T, arr_ln, arr_fn, arr_wd, arr_is, arr_get, ble_d, Nat.le_refl, q3, q4]
  have hst : st_sModel_1 m 0 (rowsT []) 0 = (fun i : Nat => st_sModel_1 m i (atL Rm.cs (m.rooms.take i)) (i : Nat)) 0 := by
    rw [rowsT0 Rm.cs]; rfl
  rw [hst, forLoop m.rooms.length (fun i : Nat => st_sModel_1 m i (atL Rm.cs (m.rooms.take i)) (i : Nat)) (ex_sModel_1_1 m m.rooms.length (atL Rm.cs m.rooms) m.rooms.length) 0 (fun i K hi => ?_) (fun K => ?_) _ (Nat.le_refl _)]
  · rw [post_sModel_1_1]
    have e2 : appF 0 (rowsT []) (plainF (atL rowI m.log)) = atL rowI m.log := by rw [plain_I, app0]
    simp only [lt_d, ge0_d, Int.toNat_natCast, blt_d, ble_self, beq_self, decide_true, cond_true, Bool.and_self, Bool.and_true, Bool.true_and, gd_true, Nat.zero_add, List.getD_cons_zero, List.getD_cons_succ, isI_int, toI_int, isB_bool, toB_bool, eL_T, arr_ln, arr_fn, arr_wd, arr_is, arr_get, ble_d, Nat.le_refl, e2]
    rfl
  · have hx := List.getElem?_eq_getElem hi
    obtain ⟨x, hxe⟩ : ∃ x, x = m.rooms[i] := ⟨_, rfl⟩
    rw [← hxe] at hx
    have c0 : ok_sRoom x := h0.2 _ (List.mem_of_getElem? hx)
    rw [round_sModel_1, ← take_app Rm.cs hx]
    have hs : (i + 1) * 136 ≤ 70368744177664 := by omega
    have hs2 : i + 1 ≤ 70368744177664 := by omega
    simp (disch := omega) only [lt_d, ge0_d, Int.toNat_natCast, blt_d, ble_self, beq_self, decide_true, cond_true, Bool.and_self, Bool.and_true, Bool.true_and, gd_true, Nat.zero_add, List.getD_cons_zero, List.getD_cons_succ, isI_int, toI_int, isB_bool, toB_bool, eL_T, arr_ln, arr_fn, arr_wd, arr_is, arr_get, eL_T, hi, atL_of hx, Rm.cs, wrapS]
    rw [entK_of (dm_sRoom c0) (iv_sRoom c0)]
    simp only [lt_d, ge0_d, Int.toNat_natCast, blt_d, ble_self, beq_self, decide_true, cond_true, Bool.and_self, Bool.and_true, Bool.true_and, gd_true, Nat.zero_add, List.getD_cons_zero, List.getD_cons_succ, isI_int, toI_int, isB_bool, toB_bool, eL_T, arr_ln, arr_fn, arr_wd, arr_is, arr_get, eL_T, ble_d, Nat.le_refl, hs, hs2, d_sRoom]
  · rw [round_sModel_1]
    simp only [lt_d, Nat.lt_irrefl, decide_false, cond_false, List.take_length]
theorem s_sModel : EntOk prog i_sModel e_sModel := ent_ok ea_sModel_inj fun x hx =>
  body_sound (φ := (tabS [(i_sRoom, e_sRoom)])) (tabS_cons s_sRoom tabS_nil) mixed (kp := kp_sModel) (n := x.rooms.length + 1) func51 (c := bodyOf F_sModel) (by kernel_rfl) (body_sModel x hx) (name_ok (by kernel_rfl))
end Go.Mach.F
namespace Go.Mach.F
open Go Go.Mach Go.Proofs.Try
theorem setF_setF (j k : Nat) (u v : T) (f : Nat → Nat → T) : setF j k v (setF j k u f) = setF j k v f := by
  funext j' k'
  simp only [setF_d]
  by_cases h : j' = j ∧ k' = k
  · rw [if_pos h, if_pos h]
  · rw [if_neg h, if_neg h, if_neg h]
theorem setF_list {α : Type} {row : α → List T} {l : List α} {j k : Nat} {v : T} {x y : α} (hx : l[j]? = some x) (hy : row y = (row x).set k v) (hk : k < (row x).length) : setF j k v (atL row l) = atL row (l.set j y) := by
  refine set_atL (List.getElem?_eq_some_iff.1 hx).1 fun j' k' => ?_
  rw [setF_d, hy]
  by_cases h : j' = j
  · subst h
    by_cases h2 : k' = k
    · subst h2
      rw [if_pos ⟨rfl, rfl⟩, if_pos rfl, List.getD_eq_getElem?_getD, List.getElem?_set_self hk]
      rfl
    · rw [if_neg fun e => h2 e.2, if_pos rfl, atL_of hx, List.getD_eq_getElem?_getD, List.getD_eq_getElem?_getD, List.getElem?_set_ne (Ne.symm h2)]
  · rw [if_neg fun e => h e.1, if_neg h]
theorem appF_app {α : Type} (row : α → List T) (l l' : List α) : appF l.length (atL row l) (atL row l') = atL row (l ++ l') := by
  funext j k
  unfold appF
  rw [blt_d, Bool.cond_decide]
  by_cases h : j < l.length
  · rw [if_pos h]
    unfold atL
    rw [List.getElem?_append_left h]
  · rw [if_neg h]
    unfold atL
    rw [List.getElem?_append_right (by omega)]
theorem rows1 {α : Type} (row : α → List T) (x : α) : rowsT [row x] = atL row [x] := by
  funext j k
  cases j with
  | zero => rfl
  | succ j => simp [rowsT, atL]
theorem plain1 (x : Int) : plainF (cutT 0 1 (rowsT [[T.int .i64 x]])) = atL rowI [x] := by
  rw [show [T.int .i64 x] = rowI x from rfl, rows1, show cutT 0 1 (atL rowI [x]) = atL rowI [x] from cut_all rowI [x], plain_I]
end Go.Mach.F
namespace Go.Mach.F
open Go Go.Mach Go.Proofs.Try
--=set_option maxRecDepth 100000
theorem lT_inj {t t' : T} (h : lT t = lT t') : t = t' := by cases h; rfl
theorem vT_inj {t t' : T} (h : vT t = vT t') : t = t' := by cases h; rfl
def ok_Rev (x : List Int) : Prop := x.length ≤ LM
def ea_Rev (x : List Int) : List Arg := [lT (eI x)]
def f_Rev (x : List Int) : List Int := x.reverse
noncomputable def e_Rev : Ent := ent [1] ok_Rev ea_Rev (fun l => ([], [oT (eI l)])) f_Rev
theorem ea_Rev_inj (x y : List Int) (h : ea_Rev x = ea_Rev y) : x = y := by
  simp only [ea_Rev, List.cons.injEq, and_true, true_and] at h
  exact eI_inj (lT_inj h)
theorem dm_Rev {l : List Int} (h : ok_Rev l) : dom ok_Rev ea_Rev [(1, false, [C.tr true (T.arr 1 l.length (atL rowI l))])] = true := dom_ea (ea := ea_Rev) (x := l) h
theorem iv_Rev {l : List Int} (h : ok_Rev l) : inv ok_Rev ea_Rev [(1, false, [C.tr true (T.arr 1 l.length (atL rowI l))])] = l := inv_ea ea_Rev_inj (x := l) h
theorem d_Rev (l : List Int) : f_Rev l = l.reverse := rfl
def i_Rev : Nat := 169
noncomputable abbrev F_Rev : Func := f169
def kp_Rev : List (Nat × List Nat) := [(0, [0, 8, 12, 2]), (1, [0, 8, 12, 36, 2]), (2, [0, 8, 12, 2]), (3, [0, 8, 12, 2])]
def ts_Rev : List Nat := [1]
def st_Rev_1 (l : List Int) (x8 : Int) (x12 : Int) (nx2 : Nat) (fx2 : Nat → Nat → T) : St := [(0, ⟨z0, [(false, [(C.ref 2 0 [0, 0] 1 0 l.length)])]⟩), (8, ⟨z0, [(false, [.tr true (T.int IntKind.i64 x8)])]⟩), (12, ⟨z0, [(false, [.tr true (T.int IntKind.i64 x12)])]⟩), (2, ⟨z0, [(false, [.tr true (.arr (1) (nx2) (fx2))])]⟩)]
def ex_Rev_1_1 (l : List Int) (x8 : Int) (x12 : Int) (nx2 : Nat) (fx2 : Nat → Nat → T) : St := [(0, ⟨z0, [(false, [(C.ref 2 0 [0, 0] 1 0 l.length)])]⟩), (8, ⟨z0, [(false, [.tr true (T.int IntKind.i64 x8)])]⟩), (12, ⟨z0, [(false, [.tr true (T.int IntKind.i64 x12)])]⟩), (36, ⟨z0, []⟩), (2, ⟨z0, [(false, [.tr true (.arr (1) (nx2) (fx2))])]⟩)]
theorem round_Rev_1 (l : List Int) (x8 : Int) (x12 : Int) (nx2 : Nat) (fx2 : Nat → Nat → T) (n : Nat) (K : Ex → St → Res) : roundAt prog (tabS []) kp_Rev F_Rev [1, 0] n (st_Rev_1 l x8 x12 nx2 fx2) K = (
 bif decide (x8 < x12) then
  gd (decide (0 ≤ x12) && (x12.toNat.blt l.length && true)) <|
  gd ((0 + x12.toNat).blt nx2 && true && T.isI IntKind.i64 (fx2 (0 + x12.toNat) 0)) <|
  gd (decide (0 ≤ x8) && (x8.toNat.blt l.length && true)) <|
  gd ((0 + x8.toNat).blt nx2 && true && T.isI IntKind.i64 (fx2 (0 + x8.toNat) 0)) <|
  gd (decide (0 ≤ x8) && (x8.toNat.blt l.length && true)) <|
  gd ((0 + x8.toNat).blt nx2 && true && true) <|
  gd (decide (0 ≤ x12) && (x12.toNat.blt l.length && true)) <|
  gd ((0 + x12.toNat).blt nx2 && true && true) <|
  K .normal (st_Rev_1 l (IntKind.i64.wrap (x8 + 1)) (IntKind.i64.wrap (x12 - 1)) (nx2) (setF (0 + x12.toNat) 0 (T.int IntKind.i64 (fx2 (0 + x8.toNat) 0).toI)
  (setF (0 + x8.toNat) 0 (T.int IntKind.i64 (fx2 (0 + x12.toNat) 0).toI) fx2)))
 else
 K (.exit 0) (ex_Rev_1_1 l x8 x12 nx2 fx2)) := by kernel_rfl
theorem post_Rev_1_1 (l : List Int) (x8 : Int) (x12 : Int) (nx2 : Nat) (fx2 : Nat → Nat → T) (n : Nat) : contAt prog (tabS []) kp_Rev F_Rev ts_Rev [1, 0] [] n (.exit 0) (ex_Rev_1_1 l x8 x12 nx2 fx2) = (
 some ([], [(false, [.tr true (.arr (1) (nx2) (fx2))])])) := by kernel_rfl
theorem pre_Rev (l : List Int) (n : Nat) : body prog (tabS []) kp_Rev n F_Rev [lT (eI l)] = (
 loopAt prog (tabS []) kp_Rev F_Rev [1, 0] n n (st_Rev_1 l (0) (IntKind.i64.wrap ((↑l.length : Int) - 1)) (l.length) (atL rowI l)) (contAt prog (tabS []) kp_Rev F_Rev ts_Rev [1, 0] [] n)) := by kernel_rfl
def ok_iTagsDown (x : List Int) : Prop := x.length ≤ LM
def ea_iTagsDown (x : List Int) : List Arg := [aT (eI x)]
def f_iTagsDown (x : List Int) : List Int := x.reverse
noncomputable def e_iTagsDown : Ent := ent [] ok_iTagsDown ea_iTagsDown (fun l => erT 1 (eI l)) f_iTagsDown
theorem ea_iTagsDown_inj (x y : List Int) (h : ea_iTagsDown x = ea_iTagsDown y) : x = y := by
  simp only [ea_iTagsDown, List.cons.injEq, and_true, true_and] at h
  exact eI_inj (aT_inj h)
theorem dm_iTagsDown {l : List Int} (h : ok_iTagsDown l) : dom ok_iTagsDown ea_iTagsDown [(0, false, [C.tr false (T.arr 1 l.length (atL rowI l))])] = true := dom_ea (ea := ea_iTagsDown) (x := l) h
theorem iv_iTagsDown {l : List Int} (h : ok_iTagsDown l) : inv ok_iTagsDown ea_iTagsDown [(0, false, [C.tr false (T.arr 1 l.length (atL rowI l))])] = l := inv_ea ea_iTagsDown_inj (x := l) h
theorem d_iTagsDown (l : List Int) : f_iTagsDown l = l.reverse := rfl
def i_iTagsDown : Nat := 129
noncomputable abbrev F_iTagsDown : Func := f129
def kp_iTagsDown : List (Nat × List Nat) := [(0, [0]), (1, [12]), (2, [12]), (3, [8])]
theorem pre_iTagsDown (l : List Int) (n : Nat) : body prog (tabS [(i_clI, e_clI), (i_Rev, e_Rev)]) kp_iTagsDown n F_iTagsDown [aT (eI l)] = (
 entK ok_clI ea_clI (f_clI) [(0, false, [C.tr false (T.arr 1 l.length (atL rowI l))])] fun (r1 : List Int) =>
 gd (r1.length.ble r1.length && true) <|
 gd (r1.length.beq r1.length && true) <|
 entK ok_Rev ea_Rev (f_Rev) [(1, false, [C.tr true (T.arr 1 r1.length (atL rowI r1))])] fun (r2 : List Int) =>
 gd (r1.length.beq r2.length && true) <|
 gd (r2.length.ble r2.length && true) <|
 gd (r2.length.ble r2.length && true) <|
 some ([(false, [.tr true (.arr (1) (r2.length) (atL rowI r2))])], [(false, [])])) := by kernel_rfl
def ok_sTagsDown (x : List Int) : Prop := x.length ≤ LM
def ea_sTagsDown (x : List Int) : List Arg := [aT (eI x)]
def f_sTagsDown (x : List Int) : List Int := x.reverse
noncomputable def e_sTagsDown : Ent := ent [] ok_sTagsDown ea_sTagsDown (fun l => erT 1 (eI l)) f_sTagsDown
theorem ea_sTagsDown_inj (x y : List Int) (h : ea_sTagsDown x = ea_sTagsDown y) : x = y := by
  simp only [ea_sTagsDown, List.cons.injEq, and_true, true_and] at h
  exact eI_inj (aT_inj h)
theorem dm_sTagsDown {l : List Int} (h : ok_sTagsDown l) : dom ok_sTagsDown ea_sTagsDown [(0, false, [C.tr false (T.arr 1 l.length (atL rowI l))])] = true := dom_ea (ea := ea_sTagsDown) (x := l) h
theorem iv_sTagsDown {l : List Int} (h : ok_sTagsDown l) : inv ok_sTagsDown ea_sTagsDown [(0, false, [C.tr false (T.arr 1 l.length (atL rowI l))])] = l := inv_ea ea_sTagsDown_inj (x := l) h
theorem d_sTagsDown (l : List Int) : f_sTagsDown l = l.reverse := rfl
def i_sTagsDown : Nat := 124
noncomputable abbrev F_sTagsDown : Func := f124
def kp_sTagsDown : List (Nat × List Nat) := [(0, [0]), (1, [0, 12]), (2, [0, 12, 16]), (3, [0, 12, 16, 40]), (4, [0, 12, 16]), (5, [0, 12, 16]), (6, [8])]
def ts_sTagsDown : List Nat := [0]
def st_sTagsDown_1 (l : List Int) (nx12 : Nat) (fx12 : Nat → Nat → T) (x16 : Int) : St := [(0, ⟨z0, [(false, [.tr false (.arr (1) (l.length) (atL rowI l))])]⟩), (12, ⟨z0, [(false, [.tr true (.arr (1) (nx12) (fx12))])]⟩), (16, ⟨z0, [(false, [.tr true (T.int IntKind.i64 x16)])]⟩)]
def ex_sTagsDown_1_1 (l : List Int) (nx12 : Nat) (fx12 : Nat → Nat → T) (x16 : Int) : St := [(0, ⟨z0, [(false, [.tr false (.arr (1) (l.length) (atL rowI l))])]⟩), (12, ⟨z0, [(false, [.tr true (.arr (1) (nx12) (fx12))])]⟩), (16, ⟨z0, [(false, [.tr true (T.int IntKind.i64 x16)])]⟩), (40, ⟨z0, []⟩)]
theorem round_sTagsDown_1 (l : List Int) (nx12 : Nat) (fx12 : Nat → Nat → T) (x16 : Int) (n : Nat) (K : Ex → St → Res) : roundAt prog (tabS []) kp_sTagsDown F_sTagsDown [1, 1, 0, 1, 0] n (st_sTagsDown_1 l nx12 fx12 x16) K = (
 bif decide (0 ≤ x16) then
  gd (decide (0 ≤ x16) && (x16.toNat.blt l.length && true)) <|
  gd (T.isI IntKind.i64 (atL rowI l x16.toNat 0)) <|
  gd (nx12.ble nx12 && true) <|
  gd (((nx12 + 1) * 8).ble 70368744177664 && (nx12 + 1).ble 70368744177664) <|
  gd ((nx12 + 1).ble (nx12 + 1) && true) <|
  K .normal (st_sTagsDown_1 l (nx12 + 1) (appF nx12 fx12 (plainF (cutT 0 1 (rowsT [[T.int IntKind.i64 (atL rowI l x16.toNat 0).toI]])))) (IntKind.i64.wrap (x16 - 1)))
 else
 K (.exit 0) (ex_sTagsDown_1_1 l nx12 fx12 x16)) := by kernel_rfl
theorem post_sTagsDown_1_1 (l : List Int) (nx12 : Nat) (fx12 : Nat → Nat → T) (x16 : Int) (n : Nat) : contAt prog (tabS []) kp_sTagsDown F_sTagsDown ts_sTagsDown [1, 1, 0, 1, 0] [] n (.exit 0) (ex_sTagsDown_1_1 l nx12 fx12 x16) = (
 gd (nx12.ble nx12 && true) <|
 gd (nx12.ble nx12 && true) <|
 some ([(false, [.tr true (.arr (1) (nx12) (fx12))])], [(false, [])])) := by kernel_rfl
theorem pre_sTagsDown (l : List Int) (n : Nat) : body prog (tabS []) kp_sTagsDown n F_sTagsDown [aT (eI l)] = (
 loopAt prog (tabS []) kp_sTagsDown F_sTagsDown [1, 1, 0, 1, 0] n n (st_sTagsDown_1 l (0) (rowsT []) (IntKind.i64.wrap ((↑l.length : Int) - 1))) (contAt prog (tabS []) kp_sTagsDown F_sTagsDown ts_sTagsDown [1, 1, 0, 1, 0] [] n)) := by kernel_rfl
end Go.Mach.F
namespace Go.Mach.F
open Go Go.Mach Go.Proofs.Try
def rI (r : List Int) (i : Nat) : Int := r.getD i 0
theorem rI_get {r : List Int} {i : Nat} (h : i < r.length) : r[i]? = some (rI r i) := by
  unfold rI
  rw [List.getD_eq_getElem?_getD, List.getElem?_eq_getElem h]
  rfl
/-- The first i and the last i have changed places. -/
def rv (l : List Int) (i : Nat) : List Int := (List.range l.length).map fun j => if j < i ∨ l.length ≤ j + i then rI l (l.length - 1 - j) else rI l j
theorem rv_len (l : List Int) (i : Nat) : (rv l i).length = l.length := by simp [rv]
theorem rv_get (l : List Int) (i : Nat) {j : Nat} (h : j < l.length) : (rv l i)[j]? = some (if j < i ∨ l.length ≤ j + i then rI l (l.length - 1 - j) else rI l j) := by
  unfold rv
  rw [List.getElem?_map, List.getElem?_range h]
  rfl
theorem rv_zero (l : List Int) : rv l 0 = l := by
  refine List.ext_getElem? fun j => ?_
  by_cases h : j < l.length
  · rw [rv_get l 0 h, if_neg (by omega), rI_get h]
  · rw [List.getElem?_eq_none (by rw [rv_len]; omega), List.getElem?_eq_none (by omega)]
theorem rv_half (l : List Int) : rv l (l.length / 2) = l.reverse := by
  refine List.ext_getElem? fun j => ?_
  by_cases h : j < l.length
  · rw [rv_get l _ h, List.getElem?_reverse h, rI_get (show l.length - 1 - j < l.length by omega)]
    by_cases h1 : j < l.length / 2 ∨ l.length ≤ j + l.length / 2
    · rw [if_pos h1]
    · rw [if_neg h1, show l.length - 1 - j = j by omega]
  · rw [List.getElem?_eq_none (by rw [rv_len]; omega), List.getElem?_eq_none (by rw [List.length_reverse]; omega)]
theorem rv_step (l : List Int) {i : Nat} (h : i < l.length / 2) : ((rv l i).set i (rI l (l.length - 1 - i))).set (l.length - 1 - i) (rI l i) = rv l (i + 1) := by
  refine List.ext_getElem? fun j => ?_
  by_cases hj : j < l.length
  · rw [rv_get l _ hj]
    by_cases e1 : j = l.length - 1 - i
    · subst e1
      rw [List.getElem?_set_self (by rw [List.length_set, rv_len]; omega), if_pos (by omega), show l.length - 1 - (l.length - 1 - i) = i by omega]
    · rw [List.getElem?_set_ne (Ne.symm e1)]
      by_cases e2 : j = i
      · subst e2
        rw [List.getElem?_set_self (by rw [rv_len]; omega), if_pos (by omega)]
      · rw [List.getElem?_set_ne (Ne.symm e2), rv_get l _ hj]
        by_cases h2 : j < i ∨ l.length ≤ j + i
        · rw [if_pos h2, if_pos (by omega)]
        · rw [if_neg h2, if_neg (by omega)]
  · rw [List.getElem?_eq_none (by rw [List.length_set, List.length_set, rv_len]; omega), List.getElem?_eq_none (by rw [rv_len]; omega)]
theorem body_Rev (l : List Int) (h : ok_Rev l) : body prog (tabS []) kp_Rev (l.length + 1) F_Rev (ea_Rev l) = some ([], [oT (eI (f_Rev l))]) := by
  have hlm := lm
  have hl : l.length ≤ LM := h
  unfold ea_Rev f_Rev
  rw [pre_Rev]
  have w0 : IntKind.i64.wrap ((l.length : Int) - 1) = (l.length : Int) - 1 - ((0 : Nat) : Int) := by rw [IntKind.wrap_i64]; omega
  have hst : st_Rev_1 l 0 (IntKind.i64.wrap ((l.length : Int) - 1)) l.length (atL rowI l) = (fun i : Nat => st_Rev_1 l (i : Nat) ((l.length : Int) - 1 - (i : Nat)) l.length (atL rowI (rv l i))) 0 := by
    rw [w0]
    simp only [rv_zero]
    rfl
  rw [hst, forLoop (l.length / 2) (fun i : Nat => st_Rev_1 l (i : Nat) ((l.length : Int) - 1 - (i : Nat)) l.length (atL rowI (rv l i))) (ex_Rev_1_1 l (l.length / 2 : Nat) ((l.length : Int) - 1 - (l.length / 2 : Nat)) l.length (atL rowI l.reverse)) 0 (fun i K hi => ?_) (fun K => ?_) _ (by omega)]
  · rw [post_Rev_1_1]
    simp only [oT, eL_T, List.length_reverse]
  · have w1 : IntKind.i64.wrap ((l.length : Int) - 1 - (i : Int) - 1) = (l.length : Int) - 1 - ((i + 1 : Nat) : Int) := by rw [IntKind.wrap_i64]; omega
    have w2 : ((l.length : Int) - 1 - (i : Int)).toNat = l.length - 1 - i := by omega
    have q1 : (i : Int) < (l.length : Int) - 1 - (i : Int) := by omega
    have q2 : 0 ≤ (l.length : Int) - 1 - (i : Int) := by omega
    have q3 : l.length - 1 - i < l.length := by omega
    have q4 : i < l.length := by omega
    have g1 := rv_get l i q4
    have g2 := rv_get l i q3
    rw [if_neg (by omega)] at g1 g2
    rw [round_Rev_1]
    simp (disch := omega) only [lt_d, ge0_d, Int.toNat_natCast, blt_d, ble_self, beq_self, decide_true, cond_true, Bool.and_self, Bool.and_true, Bool.true_and, gd_true, Nat.zero_add, List.getD_cons_zero, List.getD_cons_succ, isI_int, toI_int, isB_bool, toB_bool, eL_T, arr_ln, arr_fn, arr_wd, arr_is, arr_get, q1, q2, q3, q4, w1, w2, atL_of g1, atL_of g2, rowI, wrapS]
    rw [setF_list (y := rI l (l.length - 1 - i)) g1 rfl (by decide : 0 < 1), setF_list (x := rI l (l.length - 1 - i)) (y := rI l i) (by rw [List.getElem?_set_ne (by omega), g2]) rfl (by decide : 0 < 1), rv_step l hi]
  · have q1 : ¬ ((l.length / 2 : Nat) : Int) < (l.length : Int) - 1 - ((l.length / 2 : Nat) : Int) := by omega
    rw [round_Rev_1]
    simp only [q1, decide_false, cond_false, rv_half]
theorem s_Rev : EntOk prog i_Rev e_Rev := ent_ok ea_Rev_inj fun x hx =>
  body_sound (φ := (tabS [])) tabS_nil mixed (kp := kp_Rev) (n := x.length + 1) func169 (c := bodyOf F_Rev) (by kernel_rfl) (body_Rev x hx) (name_ok (by kernel_rfl))
theorem body_iTagsDown (l : List Int) (n : Nat) (h : ok_iTagsDown l) : body prog (tabS [(i_clI, e_clI), (i_Rev, e_Rev)]) kp_iTagsDown n F_iTagsDown (ea_iTagsDown l) = some (erT 1 (eI (f_iTagsDown l))) := by
  have c0 : ok_clI l := h
  have c1 : ok_Rev l := h
  unfold ea_iTagsDown f_iTagsDown
  rw [pre_iTagsDown, entK_of (dm_clI c0) (iv_clI c0)]
  simp only [d_clI, lt_d, ge0_d, Int.toNat_natCast, blt_d, ble_self, beq_self, decide_true, cond_true, Bool.and_self, Bool.and_true, Bool.true_and, gd_true, Nat.zero_add, List.getD_cons_zero, List.getD_cons_succ, isI_int, toI_int, isB_bool, toB_bool, eL_T, arr_ln, arr_fn, arr_wd, arr_is, arr_get, ble_d, Nat.le_refl]
  rw [entK_of (dm_Rev c1) (iv_Rev c1)]
  simp only [d_Rev, List.length_reverse, lt_d, ge0_d, Int.toNat_natCast, blt_d, ble_self, beq_self, decide_true, cond_true, Bool.and_self, Bool.and_true, Bool.true_and, gd_true, Nat.zero_add, List.getD_cons_zero, List.getD_cons_succ, isI_int, toI_int, isB_bool, toB_bool, eL_T, arr_ln, arr_fn, arr_wd, arr_is, arr_get, ble_d, Nat.le_refl]
  simp only [erT, oT, eL_T, List.length_reverse]
  rfl
theorem s_iTagsDown : EntOk prog i_iTagsDown e_iTagsDown := ent_ok ea_iTagsDown_inj fun x hx =>
  body_sound (φ := (tabS [(i_clI, e_clI), (i_Rev, e_Rev)])) (tabS_cons s_clI (tabS_cons s_Rev tabS_nil)) mixed (kp := kp_iTagsDown) (n := 0) func129 (c := bodyOf F_iTagsDown) (by kernel_rfl) (body_iTagsDown x (0) hx) (name_ok (by kernel_rfl))
theorem body_sTagsDown (l : List Int) (h : ok_sTagsDown l) : body prog (tabS []) kp_sTagsDown (l.length + 1) F_sTagsDown (ea_sTagsDown l) = some (erT 1 (eI (f_sTagsDown l))) := by
  have hlm := lm
  have hl : l.length ≤ LM := h
  unfold ea_sTagsDown f_sTagsDown
  rw [pre_sTagsDown]
  have w0 : IntKind.i64.wrap ((l.length : Int) - 1) = (l.length : Int) - 1 - ((0 : Nat) : Int) := by rw [IntKind.wrap_i64]; omega
  have hst : st_sTagsDown_1 l 0 (rowsT []) (IntKind.i64.wrap ((l.length : Int) - 1)) = (fun i : Nat => st_sTagsDown_1 l i (atL rowI (l.reverse.take i)) ((l.length : Int) - 1 - (i : Nat))) 0 := by
    rw [w0, rowsT0 rowI]
    rfl
  rw [hst, forLoop l.length (fun i : Nat => st_sTagsDown_1 l i (atL rowI (l.reverse.take i)) ((l.length : Int) - 1 - (i : Nat))) (ex_sTagsDown_1_1 l l.length (atL rowI l.reverse) ((l.length : Int) - 1 - (l.length : Nat))) 0 (fun i K hi => ?_) (fun K => ?_) _ (Nat.le_refl _)]
  · rw [post_sTagsDown_1_1]
    simp only [lt_d, ge0_d, Int.toNat_natCast, blt_d, ble_self, beq_self, decide_true, cond_true, Bool.and_self, Bool.and_true, Bool.true_and, gd_true, Nat.zero_add, List.getD_cons_zero, List.getD_cons_succ, isI_int, toI_int, isB_bool, toB_bool, eL_T, arr_ln, arr_fn, arr_wd, arr_is, arr_get, ble_d, Nat.le_refl, erT, oT, eL_T, List.length_reverse]
    rfl
  · have w1 : IntKind.i64.wrap ((l.length : Int) - 1 - (i : Int) - 1) = (l.length : Int) - 1 - ((i + 1 : Nat) : Int) := by rw [IntKind.wrap_i64]; omega
    have w2 : ((l.length : Int) - 1 - (i : Int)).toNat = l.length - 1 - i := by omega
    have q2 : 0 ≤ (l.length : Int) - 1 - (i : Int) := by omega
    have q3 : l.length - 1 - i < l.length := by omega
    have hs : (i + 1) * 8 ≤ 70368744177664 := by omega
    have hs2 : i + 1 ≤ 70368744177664 := by omega
    have hr : l.reverse[i]? = some (rI l (l.length - 1 - i)) := by rw [List.getElem?_reverse hi, rI_get q3]
    have li : (l.reverse.take i).length = i := by rw [List.length_take, List.length_reverse]; omega
    have ha : appF i (atL rowI (l.reverse.take i)) (atL rowI [rI l (l.length - 1 - i)]) = atL rowI (l.reverse.take (i + 1)) := by
      have := appF_app rowI (l.reverse.take i) [rI l (l.length - 1 - i)]
      rw [li] at this
      rw [this, List.take_add_one, hr]
      rfl
    rw [round_sTagsDown_1]
    simp (disch := omega) only [lt_d, ge0_d, Int.toNat_natCast, blt_d, ble_self, beq_self, decide_true, cond_true, Bool.and_self, Bool.and_true, Bool.true_and, gd_true, Nat.zero_add, List.getD_cons_zero, List.getD_cons_succ, isI_int, toI_int, isB_bool, toB_bool, eL_T, arr_ln, arr_fn, arr_wd, arr_is, arr_get, ble_d, Nat.le_refl, q2, q3, w1, w2, hs, hs2, atL_of (rI_get q3), rowI]
    rw [plain1, ha]
  · have q1 : ¬ 0 ≤ (l.length : Int) - 1 - (l.length : Int) := by omega
    rw [round_sTagsDown_1]
    simp only [q1, decide_false, cond_false]
    rw [show l.reverse.take l.length = l.reverse from by rw [← List.length_reverse, List.take_length]]
theorem s_sTagsDown : EntOk prog i_sTagsDown e_sTagsDown := ent_ok ea_sTagsDown_inj fun x hx =>
  body_sound (φ := (tabS [])) tabS_nil mixed (kp := kp_sTagsDown) (n := x.length + 1) func124 (c := bodyOf F_sTagsDown) (by kernel_rfl) (body_sTagsDown x hx) (name_ok (by kernel_rfl))
end Go.Mach.F
namespace Go.Mach.F
open Go Go.Mach Go.Proofs.Try
--=set_option maxRecDepth 100000
def i_Give2 : Nat := 65
noncomputable abbrev F_Give2 : Func := f65
def kp_Give2 : List (Nat × List Nat) := [(0, [4, 8, 9]), (1, [12])]
noncomputable def e_Give2 : Ent := inl [0, 0] prog (tabS []) kp_Give2 0 F_Give2
theorem s_Give2 : EntOk prog i_Give2 e_Give2 := inl_ok tabS_nil mixed (c := bodyOf F_Give2) func65 (by kernel_rfl) (name_ok (by kernel_rfl))
def ixH (l : List Hd) (h : Hd) : Int := match (List.range l.length).find? (fun i => decide (l[i]? = some h)) with | some i => (i : Int) | none => -1
def hasH (l : List Hd) (h : Hd) : Bool := decide (h ∈ l)
def ok_ixHd (x : List Hd × Hd) : Prop := x.1.length ≤ LM
def ea_ixHd (x : List Hd × Hd) : List Arg := [aT (eL 2 Hd.cs x.1), aF i_Give2 x.2.cs]
def f_ixHd (x : List Hd × Hd) : Int := ixH x.1 x.2
noncomputable def e_ixHd : Ent := ent [] ok_ixHd ea_ixHd (erI 2) f_ixHd
theorem ea_ixHd_inj (x y : List Hd × Hd) (h : ea_ixHd x = ea_ixHd y) : x = y := by
  obtain ⟨l1, h1⟩ := x
  obtain ⟨l2, h2⟩ := y
  simp only [ea_ixHd, List.cons.injEq, and_true, true_and] at h
  obtain ⟨e0, e1⟩ := h
  obtain rfl := eL_inj Hd.cs_inj (aT_inj e0)
  obtain rfl := Hd.cs_ext (aF_inj (by rfl) e1)
  rfl
theorem dm_ixHd {l : List Hd} {h : Hd} (h0 : ok_ixHd (l, h)) : dom ok_ixHd ea_ixHd [(0, false, [C.tr false (T.arr 2 l.length (atL Hd.cs l))]), (0, false, [C.fn 65 [Pt.pim 2 (pimF [T.int IntKind.i64 h.slot, T.int IntKind.i64 h.gen])]])] = true := dom_ea (ea := ea_ixHd) (x := (l, h)) h0
theorem iv_ixHd {l : List Hd} {h : Hd} (h0 : ok_ixHd (l, h)) : inv ok_ixHd ea_ixHd [(0, false, [C.tr false (T.arr 2 l.length (atL Hd.cs l))]), (0, false, [C.fn 65 [Pt.pim 2 (pimF [T.int IntKind.i64 h.slot, T.int IntKind.i64 h.gen])]])] = (l, h) := inv_ea ea_ixHd_inj (x := (l, h)) h0
theorem d_ixHd (l : List Hd) (h : Hd) : f_ixHd (l, h) = ixH l h := rfl
def i_ixHd : Nat := 131
noncomputable abbrev F_ixHd : Func := f131
def kp_ixHd : List (Nat × List Nat) := [(0, [0, 4]), (1, [0, 4, 28, 32]), (2, [0, 4, 28, 32, 36]), (3, [0, 4, 20, 28, 32]), (4, [0, 4, 20, 28, 32, 64]), (5, [16]), (6, [0, 4, 28, 32]), (7, [16])]
def ts_ixHd : List Nat := [0, 0]
def st_ixHd_1 (l : List Hd) (h : Hd) (x32 : Int) : St := [(0, ⟨z0, [(false, [.tr false (eL 2 Hd.cs l)])]⟩), (4, ⟨z0, [(false, [(C.fn 65
  [Pt.pim [T.int IntKind.i64 h.1, T.int IntKind.i64 h.2].length
      (pimF [T.int IntKind.i64 h.1, T.int IntKind.i64 h.2])])])]⟩), (28, ⟨z0, [(false, [.tr true (T.int IntKind.i64 (↑l.length : Int))])]⟩), (32, ⟨z0, [(false, [.tr true (T.int IntKind.i64 x32)])]⟩)]
def ex_ixHd_1_1 (l : List Hd) (h : Hd) (x32 : Int) : St := [(16, ⟨z0, [(false, [.tr true (T.int IntKind.i64 x32)])]⟩)]
def ex_ixHd_1_2 (l : List Hd) (h : Hd) (x32 : Int) : St := [(0, ⟨z0, [(false, [.tr false (eL 2 Hd.cs l)])]⟩), (4, ⟨z0, [(false, [(C.fn 65
  [Pt.pim [T.int IntKind.i64 h.1, T.int IntKind.i64 h.2].length
      (pimF [T.int IntKind.i64 h.1, T.int IntKind.i64 h.2])])])]⟩), (28, ⟨z0, [(false, [.tr true (T.int IntKind.i64 (↑l.length : Int))])]⟩), (32, ⟨z0, [(false, [.tr true (T.int IntKind.i64 x32)])]⟩), (36, ⟨z0, []⟩)]
theorem round_ixHd_1 (l : List Hd) (h : Hd) (x32 : Int) (n : Nat) (K : Ex → St → Res) : roundAt prog (tabS [(i_Give2, e_Give2)]) kp_ixHd F_ixHd [1, 0, 1, 0] n (st_ixHd_1 l h x32) K = (
 bif decide (x32 < (↑l.length : Int)) then
  gd (decide (0 ≤ x32) && (x32.toNat.blt l.length && true)) <|
  gd (T.isI IntKind.i64 (atL Hd.cs l x32.toNat 0) && T.isI IntKind.i64 (atL Hd.cs l x32.toNat 1)) <|
  bif bif (atL Hd.cs l x32.toNat 0).toI == (T.int IntKind.i64 h.1).toI then
  bif (atL Hd.cs l x32.toNat 1).toI == (T.int IntKind.i64 h.2).toI then true else false
else false then
   K .ret (ex_ixHd_1_1 l h x32)
  else
  K .normal (st_ixHd_1 l h (IntKind.i64.wrap (x32 + 1)))
 else
 K (.exit 0) (ex_ixHd_1_2 l h x32)) := by kernel_rfl
theorem post_ixHd_1_1 (l : List Hd) (h : Hd) (x32 : Int) (n : Nat) : contAt prog (tabS [(i_Give2, e_Give2)]) kp_ixHd F_ixHd ts_ixHd [1, 0, 1, 0] [] n .ret (ex_ixHd_1_1 l h x32) = (
 some ([(false, [.tr true (T.int IntKind.i64 x32)])], [(false, []), (false, [])])) := by kernel_rfl
theorem post_ixHd_1_2 (l : List Hd) (h : Hd) (x32 : Int) (n : Nat) : contAt prog (tabS [(i_Give2, e_Give2)]) kp_ixHd F_ixHd ts_ixHd [1, 0, 1, 0] [] n (.exit 0) (ex_ixHd_1_2 l h x32) = (
 some ([(false, [.tr true (T.int IntKind.i64 (-1))])], [(false, []), (false, [])])) := by kernel_rfl
theorem pre_ixHd (l : List Hd) (h : Hd) (n : Nat) : body prog (tabS [(i_Give2, e_Give2)]) kp_ixHd n F_ixHd [aT (eL 2 Hd.cs l), aF i_Give2 h.cs] = (
 loopAt prog (tabS [(i_Give2, e_Give2)]) kp_ixHd F_ixHd [1, 0, 1, 0] n n (st_ixHd_1 l h (0)) (contAt prog (tabS [(i_Give2, e_Give2)]) kp_ixHd F_ixHd ts_ixHd [1, 0, 1, 0] [] n)) := by kernel_rfl
def ok_idHd (x : List Hd × Hd) : Prop := x.1.length ≤ LM
def ea_idHd (x : List Hd × Hd) : List Arg := [aT (eL 2 Hd.cs x.1), aR x.2.cs]
def f_idHd (x : List Hd × Hd) : Int := ixH x.1 x.2
noncomputable def e_idHd : Ent := ent [] ok_idHd ea_idHd (erI 2) f_idHd
theorem ea_idHd_inj (x y : List Hd × Hd) (h : ea_idHd x = ea_idHd y) : x = y := by
  obtain ⟨l1, h1⟩ := x
  obtain ⟨l2, h2⟩ := y
  simp only [ea_idHd, List.cons.injEq, and_true, true_and] at h
  obtain ⟨e0, e1⟩ := h
  obtain rfl := eL_inj Hd.cs_inj (aT_inj e0)
  obtain rfl := Hd.cs_ext (aR_inj e1)
  rfl
theorem dm_idHd {l : List Hd} {h : Hd} (h0 : ok_idHd (l, h)) : dom ok_idHd ea_idHd [(0, false, [C.tr false (T.arr 2 l.length (atL Hd.cs l))]), (0, true, [C.tr false (T.int IntKind.i64 h.slot), C.tr false (T.int IntKind.i64 h.gen)])] = true := dom_ea (ea := ea_idHd) (x := (l, h)) h0
theorem iv_idHd {l : List Hd} {h : Hd} (h0 : ok_idHd (l, h)) : inv ok_idHd ea_idHd [(0, false, [C.tr false (T.arr 2 l.length (atL Hd.cs l))]), (0, true, [C.tr false (T.int IntKind.i64 h.slot), C.tr false (T.int IntKind.i64 h.gen)])] = (l, h) := inv_ea ea_idHd_inj (x := (l, h)) h0
def i_idHd : Nat := 130
noncomputable abbrev F_idHd : Func := f130
def kp_idHd : List (Nat × List Nat) := [(0, [0, 12, 13]), (1, [0, 12, 13, 28, 32]), (2, [0, 12, 13, 28, 32, 36]), (3, [0, 12, 13, 20, 28, 32]), (4, [0, 12, 13, 20, 28, 32, 64]), (5, [16]), (6, [0, 12, 13, 28, 32]), (7, [16])]
def ts_idHd : List Nat := [0, 0]
def st_idHd_1 (l : List Hd) (h : Hd) (x32 : Int) : St := [(0, ⟨z0, [(false, [.tr false (eL 2 Hd.cs l)])]⟩), (12, ⟨z0, [(false, [(C.pt (Pt.ptr 13 0 [] 2 0 0))])]⟩), (13, ⟨z0, [(true, [.tr true (T.int IntKind.i64 h.1), .tr true (T.int IntKind.i64 h.2)])]⟩), (28, ⟨z0, [(false, [.tr true (T.int IntKind.i64 (↑l.length : Int))])]⟩), (32, ⟨z0, [(false, [.tr true (T.int IntKind.i64 x32)])]⟩)]
def ex_idHd_1_1 (l : List Hd) (h : Hd) (x32 : Int) : St := [(16, ⟨z0, [(false, [.tr true (T.int IntKind.i64 x32)])]⟩)]
def ex_idHd_1_2 (l : List Hd) (h : Hd) (x32 : Int) : St := [(0, ⟨z0, [(false, [.tr false (eL 2 Hd.cs l)])]⟩), (12, ⟨z0, [(false, [(C.pt (Pt.ptr 13 0 [] 2 0 0))])]⟩), (13, ⟨z0, [(true, [.tr true (T.int IntKind.i64 h.1), .tr true (T.int IntKind.i64 h.2)])]⟩), (28, ⟨z0, [(false, [.tr true (T.int IntKind.i64 (↑l.length : Int))])]⟩), (32, ⟨z0, [(false, [.tr true (T.int IntKind.i64 x32)])]⟩), (36, ⟨z0, []⟩)]
theorem round_idHd_1 (l : List Hd) (h : Hd) (x32 : Int) (n : Nat) (K : Ex → St → Res) : roundAt prog (tabS []) kp_idHd F_idHd [1, 0, 1, 0] n (st_idHd_1 l h x32) K = (
 bif decide (x32 < (↑l.length : Int)) then
  gd (decide (0 ≤ x32) && (x32.toNat.blt l.length && true)) <|
  gd (T.isI IntKind.i64 (atL Hd.cs l x32.toNat 0) && T.isI IntKind.i64 (atL Hd.cs l x32.toNat 1)) <|
  bif bif h.1 == (atL Hd.cs l x32.toNat 0).toI then bif h.2 == (atL Hd.cs l x32.toNat 1).toI then true else false
else false then
   K .ret (ex_idHd_1_1 l h x32)
  else
  K .normal (st_idHd_1 l h (IntKind.i64.wrap (x32 + 1)))
 else
 K (.exit 0) (ex_idHd_1_2 l h x32)) := by kernel_rfl
theorem post_idHd_1_1 (l : List Hd) (h : Hd) (x32 : Int) (n : Nat) : contAt prog (tabS []) kp_idHd F_idHd ts_idHd [1, 0, 1, 0] [] n .ret (ex_idHd_1_1 l h x32) = (
 some ([(false, [.tr true (T.int IntKind.i64 x32)])], [(false, []), (false, [])])) := by kernel_rfl
theorem post_idHd_1_2 (l : List Hd) (h : Hd) (x32 : Int) (n : Nat) : contAt prog (tabS []) kp_idHd F_idHd ts_idHd [1, 0, 1, 0] [] n (.exit 0) (ex_idHd_1_2 l h x32) = (
 some ([(false, [.tr true (T.int IntKind.i64 (-1))])], [(false, []), (false, [])])) := by kernel_rfl
theorem pre_idHd (l : List Hd) (h : Hd) (n : Nat) : body prog (tabS []) kp_idHd n F_idHd [aT (eL 2 Hd.cs l), aR h.cs] = (
 loopAt prog (tabS []) kp_idHd F_idHd [1, 0, 1, 0] n n (st_idHd_1 l h (0)) (contAt prog (tabS []) kp_idHd F_idHd ts_idHd [1, 0, 1, 0] [] n)) := by kernel_rfl
def ok_delH (x : List Hd × Hd) : Prop := x.1.length ≤ LM
def ea_delH (x : List Hd × Hd) : List Arg := [vT (eL 2 Hd.cs x.1), aF i_Give2 x.2.cs]
def f_delH (x : List Hd × Hd) : List Hd := x.1.filter (fun y => !decide (y = x.2))
noncomputable def e_delH : Ent := ent [3] ok_delH ea_delH (fun l => ([oT (eL 2 Hd.cs l)], [nul, nul])) f_delH
theorem ea_delH_inj (x y : List Hd × Hd) (h : ea_delH x = ea_delH y) : x = y := by
  obtain ⟨l1, h1⟩ := x
  obtain ⟨l2, h2⟩ := y
  simp only [ea_delH, List.cons.injEq, and_true, true_and] at h
  obtain ⟨e0, e1⟩ := h
  obtain rfl := eL_inj Hd.cs_inj (vT_inj e0)
  obtain rfl := Hd.cs_ext (aF_inj (by rfl) e1)
  rfl
theorem dm_delH {l : List Hd} {h : Hd} (h0 : ok_delH (l, h)) : dom ok_delH ea_delH [(3, false, [C.tr true (T.arr 2 l.length (atL Hd.cs l))]), (0, false, [C.fn 65 [Pt.pim 2 (pimF [T.int IntKind.i64 h.slot, T.int IntKind.i64 h.gen])]])] = true := dom_ea (ea := ea_delH) (x := (l, h)) h0
theorem iv_delH {l : List Hd} {h : Hd} (h0 : ok_delH (l, h)) : inv ok_delH ea_delH [(3, false, [C.tr true (T.arr 2 l.length (atL Hd.cs l))]), (0, false, [C.fn 65 [Pt.pim 2 (pimF [T.int IntKind.i64 h.slot, T.int IntKind.i64 h.gen])]])] = (l, h) := inv_ea ea_delH_inj (x := (l, h)) h0
theorem d_delH (l : List Hd) (h : Hd) : f_delH (l, h) = l.filter (fun y => !decide (y = h)) := rfl
def i_delH : Nat := 64
noncomputable abbrev F_delH : Func := f64
def kp_delH : List (Nat × List Nat) := [(0, [0, 4, 2]), (1, [0, 4, 20, 2]), (2, [0, 4, 20, 48, 2]), (3, [16, 2]), (4, [0, 4, 20, 24, 2]), (5, [0, 4, 20, 24, 76, 2]), (6, [0, 4, 20, 24, 2]), (7, [0, 4, 20, 24, 28, 29, 2]), (8, [0, 4, 20, 24, 28, 29, 116, 2]), (9, [0, 4, 20, 24, 2]), (10, [0, 4, 20, 24, 2]), (11, [0, 20, 2]), (12, [16, 2])]
def ts_delH : List Nat := [3, 0]
def st_delH_1 (l : List Hd) (h : Hd) (nx0 : Nat) (fx0 : Nat → Nat → T) (x20 : Int) (x24 : Int) : St := [(0, ⟨z0, [(false, [.tr true (.arr (2) (nx0) (fx0))])]⟩), (4, ⟨z0, [(false, [(C.fn 65
  [Pt.pim [T.int IntKind.i64 h.1, T.int IntKind.i64 h.2].length
      (pimF [T.int IntKind.i64 h.1, T.int IntKind.i64 h.2])])])]⟩), (20, ⟨z0, [(false, [.tr true (T.int IntKind.i64 x20)])]⟩), (24, ⟨z0, [(false, [.tr true (T.int IntKind.i64 x24)])]⟩)]
def ex_delH_1_1 (l : List Hd) (h : Hd) (nx0 : Nat) (fx0 : Nat → Nat → T) (x20 : Int) (x24 : Int) : St := [(0, ⟨z0, [(false, [.tr true (.arr (2) (nx0) (fx0))])]⟩), (4, ⟨z0, [(false, [(C.fn 65
  [Pt.pim [T.int IntKind.i64 h.1, T.int IntKind.i64 h.2].length
      (pimF [T.int IntKind.i64 h.1, T.int IntKind.i64 h.2])])])]⟩), (20, ⟨z0, [(false, [.tr true (T.int IntKind.i64 x20)])]⟩), (24, ⟨z0, [(false, [.tr true (T.int IntKind.i64 x24)])]⟩), (76, ⟨z0, []⟩)]
theorem round_delH_1 (l : List Hd) (h : Hd) (nx0 : Nat) (fx0 : Nat → Nat → T) (x20 : Int) (x24 : Int) (n : Nat) (K : Ex → St → Res) : roundAt prog (tabS [(i_ixHd, e_ixHd), (i_Give2, e_Give2)]) kp_delH F_delH [1, 1, 1, 0, 1, 0] n (st_delH_1 l h nx0 fx0 x20 x24) K = (
 bif decide (x24 < (↑nx0 : Int)) then
  gd (decide (0 ≤ x24) && (x24.toNat.blt nx0 && true)) <|
  gd ((0 + x24.toNat).blt nx0 && true &&
  (T.isI IntKind.i64 (fx0 (0 + x24.toNat) 0) && T.isI IntKind.i64 (fx0 (0 + x24.toNat) 1))) <|
  bif !bif (fx0 (0 + x24.toNat) 0).toI == (T.int IntKind.i64 h.1).toI then
    bif (fx0 (0 + x24.toNat) 1).toI == (T.int IntKind.i64 h.2).toI then true else false
  else false then
   gd (decide (0 ≤ x20) && (x20.toNat.blt nx0 && true)) <|
   gd ((0 + x20.toNat).blt nx0 && true && true) <|
   gd ((0 + x20.toNat).blt nx0 && true && true) <|
   K .normal (st_delH_1 l h (nx0) (setF (0 + x20.toNat) 1 (T.int IntKind.i64 (fx0 (0 + x24.toNat) 1).toI)
  (setF (0 + x20.toNat) 0 (T.int IntKind.i64 (fx0 (0 + x24.toNat) 0).toI) fx0)) (IntKind.i64.wrap (x20 + 1)) (IntKind.i64.wrap (x24 + 1)))
  else
  K .normal (st_delH_1 l h (nx0) (fx0) (x20) (IntKind.i64.wrap (x24 + 1)))
 else
 K (.exit 0) (ex_delH_1_1 l h nx0 fx0 x20 x24)) := by kernel_rfl
theorem post_delH_1_1 (l : List Hd) (h : Hd) (nx0 : Nat) (fx0 : Nat → Nat → T) (x20 : Int) (x24 : Int) (n : Nat) : contAt prog (tabS [(i_ixHd, e_ixHd), (i_Give2, e_Give2)]) kp_delH F_delH ts_delH [1, 1, 1, 0, 1, 0] [] n (.exit 0) (ex_delH_1_1 l h nx0 fx0 x20 x24) = (
 gd (decide (0 ≤ x20) && (decide (x20 ≤ (↑nx0 : Int)) && decide ((↑nx0 : Int) ≤ (↑nx0 : Int)))) <|
 gd ((0 + x20.toNat + ((↑nx0 : Int).toNat - x20.toNat)).ble nx0) <|
 gd (decide (0 ≤ x20) && decide (x20 ≤ (↑nx0 : Int))) <|
 gd ((x20.toNat - 0).ble nx0 && true) <|
 gd ((x20.toNat - 0).ble (x20.toNat - 0) && true) <|
 some ([(false, [.tr true (.arr (2) (x20.toNat - 0) (fillT 2 (0 + x20.toNat) ((↑nx0 : Int).toNat - x20.toNat)
  (fun x k => zeroT prog 38 0 k) fx0))])], [(false, []), (false, [])])) := by kernel_rfl
theorem pre_delH (l : List Hd) (h : Hd) (n : Nat) : body prog (tabS [(i_ixHd, e_ixHd), (i_Give2, e_Give2)]) kp_delH n F_delH [vT (eL 2 Hd.cs l), aF i_Give2 h.cs] = (
 gd ((0 + l.length).ble l.length) <|
 entK ok_ixHd ea_ixHd (f_ixHd) [(0, false, [C.tr false (T.arr 2 l.length (cutT 0 l.length (eL 2 Hd.cs l).fn))]),
  (0, false,
    [C.fn 65
        [Pt.pim [T.int IntKind.i64 h.1, T.int IntKind.i64 h.2].length
            (pimF [T.int IntKind.i64 h.1, T.int IntKind.i64 h.2])]])] fun (r1 : Int) =>
 bif r1 == -1 then
  gd (l.length.ble l.length && true) <|
  gd (l.length.ble l.length && true) <|
  some ([(false, [.tr true (.arr (2) (l.length) ((eL 2 Hd.cs l).fn))])], [(false, []), (false, [])])
 else
 loopAt prog (tabS [(i_ixHd, e_ixHd), (i_Give2, e_Give2)]) kp_delH F_delH [1, 1, 1, 0, 1, 0] n n (st_delH_1 l h (T.ln (eL 2 Hd.cs l)) (T.fn (eL 2 Hd.cs l)) r1 (IntKind.i64.wrap (r1 + 1))) (contAt prog (tabS [(i_ixHd, e_ixHd), (i_Give2, e_Give2)]) kp_delH F_delH ts_delH [1, 1, 1, 0, 1, 0] [] n)) := by kernel_rfl
def ok_sHasH (x : List Hd × Hd) : Prop := x.1.length ≤ LM
def ea_sHasH (x : List Hd × Hd) : List Arg := [aT (eL 2 Hd.cs x.1), aR x.2.cs]
def f_sHasH (x : List Hd × Hd) : Bool := hasH x.1 x.2
noncomputable def e_sHasH : Ent := ent [] ok_sHasH ea_sHasH (erB 2) f_sHasH
theorem ea_sHasH_inj (x y : List Hd × Hd) (h : ea_sHasH x = ea_sHasH y) : x = y := by
  obtain ⟨l1, h1⟩ := x
  obtain ⟨l2, h2⟩ := y
  simp only [ea_sHasH, List.cons.injEq, and_true, true_and] at h
  obtain ⟨e0, e1⟩ := h
  obtain rfl := eL_inj Hd.cs_inj (aT_inj e0)
  obtain rfl := Hd.cs_ext (aR_inj e1)
  rfl
theorem dm_sHasH {l : List Hd} {h : Hd} (h0 : ok_sHasH (l, h)) : dom ok_sHasH ea_sHasH [(0, false, [C.tr false (T.arr 2 l.length (atL Hd.cs l))]), (0, true, [C.tr false (T.int IntKind.i64 h.slot), C.tr false (T.int IntKind.i64 h.gen)])] = true := dom_ea (ea := ea_sHasH) (x := (l, h)) h0
theorem iv_sHasH {l : List Hd} {h : Hd} (h0 : ok_sHasH (l, h)) : inv ok_sHasH ea_sHasH [(0, false, [C.tr false (T.arr 2 l.length (atL Hd.cs l))]), (0, true, [C.tr false (T.int IntKind.i64 h.slot), C.tr false (T.int IntKind.i64 h.gen)])] = (l, h) := inv_ea ea_sHasH_inj (x := (l, h)) h0
theorem d_sHasH (l : List Hd) (h : Hd) : f_sHasH (l, h) = hasH l h := rfl
def i_sHasH : Nat := 54
noncomputable abbrev F_sHasH : Func := f54
def kp_sHasH : List (Nat × List Nat) := [(0, [0, 12, 13]), (1, [0, 12, 13, 20]), (2, [0, 12, 13, 20, 36]), (3, [0, 12, 13, 20]), (4, [0, 12, 13, 20, 68]), (5, [16]), (6, [16])]
def ts_sHasH : List Nat := [0, 0]
def st_sHasH_1 (l : List Hd) (h : Hd) (x20 : Int) : St := [(0, ⟨z0, [(false, [.tr false (eL 2 Hd.cs l)])]⟩), (12, ⟨z0, [(false, [(C.pt (Pt.ptr 13 0 [] 2 0 0))])]⟩), (13, ⟨z0, [(true, [.tr true (T.int IntKind.i64 h.1), .tr true (T.int IntKind.i64 h.2)])]⟩), (20, ⟨z0, [(false, [.tr true (T.int IntKind.i64 x20)])]⟩)]
def ex_sHasH_1_1 (l : List Hd) (h : Hd) (x20 : Int) : St := [(16, ⟨z0, [(false, [.tr true (T.bool true)])]⟩)]
def ex_sHasH_1_2 (l : List Hd) (h : Hd) (x20 : Int) : St := [(0, ⟨z0, [(false, [.tr false (eL 2 Hd.cs l)])]⟩), (12, ⟨z0, [(false, [(C.pt (Pt.ptr 13 0 [] 2 0 0))])]⟩), (13, ⟨z0, [(true, [.tr true (T.int IntKind.i64 h.1), .tr true (T.int IntKind.i64 h.2)])]⟩), (20, ⟨z0, [(false, [.tr true (T.int IntKind.i64 x20)])]⟩), (36, ⟨z0, []⟩)]
theorem round_sHasH_1 (l : List Hd) (h : Hd) (x20 : Int) (n : Nat) (K : Ex → St → Res) : roundAt prog (tabS []) kp_sHasH F_sHasH [1, 0, 1, 0] n (st_sHasH_1 l h x20) K = (
 bif decide (x20 < (↑l.length : Int)) then
  gd (decide (0 ≤ x20) && (x20.toNat.blt l.length && true)) <|
  gd (T.isI IntKind.i64 (atL Hd.cs l x20.toNat 0) && T.isI IntKind.i64 (atL Hd.cs l x20.toNat 1)) <|
  bif bif (atL Hd.cs l x20.toNat 0).toI == h.1 then bif (atL Hd.cs l x20.toNat 1).toI == h.2 then true else false
else false then
   K .ret (ex_sHasH_1_1 l h x20)
  else
  K .normal (st_sHasH_1 l h (IntKind.i64.wrap (x20 + 1)))
 else
 K (.exit 0) (ex_sHasH_1_2 l h x20)) := by kernel_rfl
theorem post_sHasH_1_1 (l : List Hd) (h : Hd) (x20 : Int) (n : Nat) : contAt prog (tabS []) kp_sHasH F_sHasH ts_sHasH [1, 0, 1, 0] [] n .ret (ex_sHasH_1_1 l h x20) = (
 some ([(false, [.tr true (T.bool true)])], [(false, []), (false, [])])) := by kernel_rfl
theorem post_sHasH_1_2 (l : List Hd) (h : Hd) (x20 : Int) (n : Nat) : contAt prog (tabS []) kp_sHasH F_sHasH ts_sHasH [1, 0, 1, 0] [] n (.exit 0) (ex_sHasH_1_2 l h x20) = (
 some ([(false, [.tr true (T.bool false)])], [(false, []), (false, [])])) := by kernel_rfl
theorem pre_sHasH (l : List Hd) (h : Hd) (n : Nat) : body prog (tabS []) kp_sHasH n F_sHasH [aT (eL 2 Hd.cs l), aR h.cs] = (
 loopAt prog (tabS []) kp_sHasH F_sHasH [1, 0, 1, 0] n n (st_sHasH_1 l h (0)) (contAt prog (tabS []) kp_sHasH F_sHasH ts_sHasH [1, 0, 1, 0] [] n)) := by kernel_rfl
end Go.Mach.F
namespace Go.Mach.F
open Go Go.Mach Go.Proofs.Try
theorem Sound.cut1 {f : FuncId} {args : List Arg} {m n : Nat} {g g' : Nat → Nat → T} {outs : List Row} (h : Sound prog f args [oT (.arr m n g)] outs) (e : ∀ j k, j < n → k < m → g j k = g' j k) : Sound prog f args [oT (.arr m n g')] outs := by
  refine ⟨h.1, fun w vals γ ha => (h.2 w vals γ ha).mono fun x w' ⟨v, δ, h1, h2, h3⟩ => ⟨v, δ, h1, h2, ⟨h3.inj, h3.rng, fun E G V => ?_, h3.out⟩⟩⟩
  have hr : RelOwn w' (.arr m n g) (fun q => δ 0 (0 :: 0 :: q)) v := h3.res E G V
  show RelOwn w' (.arr m n g') (fun q => δ 0 (0 :: 0 :: q)) v
  rcases hr with hr | ⟨b, off, cap, cs, ty, a1, a2, a3, a4, a5, a6⟩
  · exact .inl hr
  · refine .inr ⟨b, off, cap, cs, ty, a1, a2, a3, a4, a5, fun j hj k hk => ?_⟩
    rw [← e j k hj hk]
    exact a6 j hj k hk
theorem hd_e1 (x h : Hd) : decide (x.slot = h.slot ∧ x.gen = h.gen) = decide (some x = some h) := by
  refine decide_eq_decide.2 ?_
  rcases x with ⟨_, _⟩
  rcases h with ⟨_, _⟩
  simp
theorem hd_e2 (x h : Hd) : decide (h.slot = x.slot ∧ h.gen = x.gen) = decide (some x = some h) := by
  rw [← hd_e1]
  exact decide_eq_decide.2 ⟨fun e => ⟨e.1.symm, e.2.symm⟩, fun e => ⟨e.1.symm, e.2.symm⟩⟩
theorem ixH_of (l : List Hd) (h : Hd) : (∃ i : Nat, ixH l h = (i : Int) ∧ l[i]? = some h ∧ i < l.length ∧ ∀ j, j < i → l[j]? ≠ some h) ∨ (ixH l h = -1 ∧ h ∉ l) := by
  unfold ixH
  cases hf : (List.range l.length).find? (fun i => decide (l[i]? = some h)) with
  | some i =>
    obtain ⟨h1, h2, h3⟩ := List.find?_range_eq_some.1 hf
    refine .inl ⟨i, rfl, of_decide_eq_true h1, List.mem_range.1 h2, fun j hj e => ?_⟩
    have := h3 j hj
    simp [e] at this
  | none =>
    refine .inr ⟨rfl, fun hm => ?_⟩
    obtain ⟨i, hi, e⟩ := List.getElem_of_mem hm
    have := List.find?_eq_none.1 hf i (List.mem_range.2 hi)
    simp [List.getElem?_eq_getElem hi, e] at this
theorem ixH_has (l : List Hd) (h : Hd) : decide (0 ≤ ixH l h) = hasH l h := by
  unfold hasH
  rcases ixH_of l h with ⟨i, e, hi, _⟩ | ⟨e, hn⟩
  · rw [e, decide_eq_true (List.mem_of_getElem? hi)]
    exact decide_eq_true (Int.natCast_nonneg i)
  · rw [e, decide_eq_false hn]
    rfl
theorem body_ixHd (l : List Hd) (h : Hd) (h0 : ok_ixHd (l, h)) : body prog (tabS [(i_Give2, e_Give2)]) kp_ixHd (l.length + 1) F_ixHd (ea_ixHd (l, h)) = some (erI 2 (f_ixHd (l, h))) := by
  have hlm := lm
  have hl : l.length ≤ LM := h0
  unfold ea_ixHd f_ixHd
  dsimp only
  rw [pre_ixHd, show st_ixHd_1 l h 0 = (fun i : Nat => st_ixHd_1 l h (i : Nat)) 0 from rfl,
    forExit l.length (fun i : Nat => st_ixHd_1 l h (i : Nat)) (ex_ixHd_1_2 l h l.length) 0 (fun i => decide (l[i]? = some h)) .ret (by simp) (fun i => ex_ixHd_1_1 l h i) (fun i K hi => ?_) (fun K => ?_) _ (Nat.le_refl _)]
  · unfold ixH
    cases (List.range l.length).find? (fun i => decide (l[i]? = some h)) with
    | some i => exact post_ixHd_1_1 l h i _
    | none => exact post_ixHd_1_2 l h l.length _
  · have hx := List.getElem?_eq_getElem hi
    rw [round_ixHd_1]
    simp (disch := omega) only [lt_d, ge0_d, Int.toNat_natCast, blt_d, ble_self, beq_self, decide_true, cond_true, Bool.and_self, Bool.and_true, Bool.true_and, gd_true, Nat.zero_add, List.getD_cons_zero, List.getD_cons_succ, isI_int, toI_int, isB_bool, toB_bool, eL_T, arr_ln, arr_fn, arr_wd, arr_is, arr_get, hi, atL_of hx, hx, Hd.cs, wrapS, int_eq, cond_tf, cond_bf, dec_and, hd_e1]
  · rw [round_ixHd_1]
    simp only [lt_d, Nat.lt_irrefl, decide_false, cond_false]
theorem s_ixHd : EntOk prog i_ixHd e_ixHd := ent_ok ea_ixHd_inj fun x hx =>
  body_sound (φ := (tabS [(i_Give2, e_Give2)])) (tabS_cons s_Give2 tabS_nil) mixed (kp := kp_ixHd) (n := x.1.length + 1) func131 (c := bodyOf F_ixHd) (by kernel_rfl) (body_ixHd x.1 x.2 hx) (name_ok (by kernel_rfl))
theorem body_idHd (l : List Hd) (h : Hd) (h0 : ok_idHd (l, h)) : body prog (tabS []) kp_idHd (l.length + 1) F_idHd (ea_idHd (l, h)) = some (erI 2 (f_idHd (l, h))) := by
  have hlm := lm
  have hl : l.length ≤ LM := h0
  unfold ea_idHd f_idHd
  dsimp only
  rw [pre_idHd, show st_idHd_1 l h 0 = (fun i : Nat => st_idHd_1 l h (i : Nat)) 0 from rfl,
    forExit l.length (fun i : Nat => st_idHd_1 l h (i : Nat)) (ex_idHd_1_2 l h l.length) 0 (fun i => decide (l[i]? = some h)) .ret (by simp) (fun i => ex_idHd_1_1 l h i) (fun i K hi => ?_) (fun K => ?_) _ (Nat.le_refl _)]
  · unfold ixH
    cases (List.range l.length).find? (fun i => decide (l[i]? = some h)) with
    | some i => exact post_idHd_1_1 l h i _
    | none => exact post_idHd_1_2 l h l.length _
  · have hx := List.getElem?_eq_getElem hi
    rw [round_idHd_1]
    simp (disch := omega) only [lt_d, ge0_d, Int.toNat_natCast, blt_d, ble_self, beq_self, decide_true, cond_true, Bool.and_self, Bool.and_true, Bool.true_and, gd_true, Nat.zero_add, List.getD_cons_zero, List.getD_cons_succ, isI_int, toI_int, isB_bool, toB_bool, eL_T, arr_ln, arr_fn, arr_wd, arr_is, arr_get, hi, atL_of hx, hx, Hd.cs, wrapS, int_eq, cond_tf, cond_bf, dec_and, hd_e2]
  · rw [round_idHd_1]
    simp only [lt_d, Nat.lt_irrefl, decide_false, cond_false]
theorem s_idHd : EntOk prog i_idHd e_idHd := ent_ok ea_idHd_inj fun x hx =>
  body_sound (φ := (tabS [])) tabS_nil mixed (kp := kp_idHd) (n := x.1.length + 1) func130 (c := bodyOf F_idHd) (by kernel_rfl) (body_idHd x.1 x.2 hx) (name_ok (by kernel_rfl))
theorem body_sHasH (l : List Hd) (h : Hd) (h0 : ok_sHasH (l, h)) : body prog (tabS []) kp_sHasH (l.length + 1) F_sHasH (ea_sHasH (l, h)) = some (erB 2 (f_sHasH (l, h))) := by
  have hlm := lm
  have hl : l.length ≤ LM := h0
  unfold ea_sHasH f_sHasH
  dsimp only
  rw [pre_sHasH, show st_sHasH_1 l h 0 = (fun i : Nat => st_sHasH_1 l h (i : Nat)) 0 from rfl,
    forExit l.length (fun i : Nat => st_sHasH_1 l h (i : Nat)) (ex_sHasH_1_2 l h l.length) 0 (fun i => decide (l[i]? = some h)) .ret (by simp) (fun i => ex_sHasH_1_1 l h i) (fun i K hi => ?_) (fun K => ?_) _ (Nat.le_refl _)]
  · have hh := ixH_has l h
    unfold ixH at hh
    cases hf : (List.range l.length).find? (fun i => decide (l[i]? = some h)) with
    | some i =>
      rw [hf] at hh
      rw [← hh, show decide (0 ≤ (i : Int)) = true from decide_eq_true (Int.natCast_nonneg i)]
      exact post_sHasH_1_1 l h i _
    | none =>
      rw [hf] at hh
      rw [← hh]
      exact post_sHasH_1_2 l h l.length _
  · have hx := List.getElem?_eq_getElem hi
    rw [round_sHasH_1]
    simp (disch := omega) only [lt_d, ge0_d, Int.toNat_natCast, blt_d, ble_self, beq_self, decide_true, cond_true, Bool.and_self, Bool.and_true, Bool.true_and, gd_true, Nat.zero_add, List.getD_cons_zero, List.getD_cons_succ, isI_int, toI_int, isB_bool, toB_bool, eL_T, arr_ln, arr_fn, arr_wd, arr_is, arr_get, hi, atL_of hx, hx, Hd.cs, wrapS, int_eq, cond_tf, cond_bf, dec_and, hd_e1]
  · rw [round_sHasH_1]
    simp only [lt_d, Nat.lt_irrefl, decide_false, cond_false]
theorem s_sHasH : EntOk prog i_sHasH e_sHasH := ent_ok ea_sHasH_inj fun x hx =>
  body_sound (φ := (tabS [])) tabS_nil mixed (kp := kp_sHasH) (n := x.1.length + 1) func54 (c := bodyOf F_sHasH) (by kernel_rfl) (body_sHasH x.1 x.2 hx) (name_ok (by kernel_rfl))
/-- What DeleteFunc holds behind j elements: what is kept of these, then what lay there. -/
def kpF {α : Type} (p : α → Bool) (l : List α) (j : Nat) : List α := (l.take j).filter p
def kpA {α : Type} (p : α → Bool) (l : List α) (j : Nat) : List α := kpF p l j ++ l.drop (kpF p l j).length
theorem kpF_len {α : Type} (p : α → Bool) (l : List α) {j : Nat} (h : j ≤ l.length) : (kpF p l j).length ≤ j := by
  have := List.length_filter_le p (l.take j)
  rw [List.length_take] at this
  unfold kpF
  omega
theorem kpA_len {α : Type} (p : α → Bool) (l : List α) {j : Nat} (h : j ≤ l.length) : (kpA p l j).length = l.length := by
  have := kpF_len p l h
  unfold kpA
  rw [List.length_append, List.length_drop]
  omega
theorem kpA_get {α : Type} (p : α → Bool) (l : List α) {j : Nat} (h : j ≤ l.length) : (kpA p l j)[j]? = l[j]? := by
  have := kpF_len p l h
  unfold kpA
  rw [List.getElem?_append_right this, List.getElem?_drop]
  congr 1
  omega
theorem kpF_next {α : Type} (p : α → Bool) {l : List α} {j : Nat} {x : α} (hx : l[j]? = some x) : kpF p l (j + 1) = bif p x then kpF p l j ++ [x] else kpF p l j := by
  unfold kpF
  rw [List.take_add_one, hx, List.filter_append]
  cases hp : p x with
  | true => simp [hp]
  | false => simp [hp]
theorem kpA_next {α : Type} (p : α → Bool) {l : List α} {j : Nat} {x : α} (hx : l[j]? = some x) : kpA p l (j + 1) = bif p x then (kpA p l j).set (kpF p l j).length x else kpA p l j := by
  have hj := (List.getElem?_eq_some_iff.1 hx).1
  have hle := kpF_len p l (Nat.le_of_lt hj)
  unfold kpA
  rw [kpF_next p hx]
  cases p x with
  | false => rfl
  | true =>
    simp only [cond_true]
    rw [List.set_append_right _ _ (Nat.le_refl _), Nat.sub_self, List.length_append, List.length_singleton]
    have hd : l.drop (kpF p l j).length = (l[(kpF p l j).length]'(by omega)) :: l.drop ((kpF p l j).length + 1) := List.drop_eq_getElem_cons (by omega)
    rw [hd, List.set_cons_zero, List.append_assoc]
    rfl
theorem kpF_pre {α : Type} (p : α → Bool) {l : List α} {i : Nat} (h : ∀ j, j < i → ∀ x, l[j]? = some x → p x = true) : kpF p l i = l.take i := by
  unfold kpF
  refine List.filter_eq_self.2 fun x hx => ?_
  obtain ⟨j, hj, e⟩ := List.getElem_of_mem hx
  rw [List.length_take] at hj
  refine h j (by omega) x ?_
  rw [List.getElem_take] at e
  rw [← e]
  exact List.getElem?_eq_getElem _
theorem set_getH {α : Type} {l : List α} {j : Nat} {x y : α} (h : l[j]? = some x) : (l.set j y)[j]? = some y := by
  rw [List.getElem?_set_self (List.getElem?_eq_some_iff.1 h).1]
theorem body_delH (l : List Hd) (h : Hd) (h0 : ok_delH (l, h)) : ∃ g, body prog (tabS [(i_ixHd, e_ixHd), (i_Give2, e_Give2)]) kp_delH (l.length + 1) F_delH (ea_delH (l, h)) = some ([oT (.arr 2 (f_delH (l, h)).length g)], [nul, nul]) ∧ ∀ j k, j < (f_delH (l, h)).length → k < 2 → g j k = atL Hd.cs (f_delH (l, h)) j k := by
  have hlm := lm
  have hl : l.length ≤ LM := h0
  have c0 : ok_ixHd (l, h) := hl
  obtain ⟨p, hp⟩ : ∃ p : Hd → Bool, p = fun y => !decide (y = h) := ⟨_, rfl⟩
  have hf : f_delH (l, h) = kpF p l l.length := by
    unfold f_delH kpF
    rw [List.take_length, hp]
  unfold ea_delH
  dsimp only
  rw [pre_delH]
  simp only [lt_d, ge0_d, Int.toNat_natCast, blt_d, ble_self, beq_self, decide_true, cond_true, Bool.and_self, Bool.and_true, Bool.true_and, gd_true, Nat.zero_add, List.getD_cons_zero, List.getD_cons_succ, isI_int, toI_int, isB_bool, toB_bool, eL_T, arr_ln, arr_fn, arr_wd, arr_is, arr_get, ble_d, Nat.le_refl, cut_all, List.length_cons, List.length_nil, Nat.reduceAdd]
  rw [entK_of (dm_ixHd c0) (iv_ixHd c0)]
  simp only [d_ixHd, int_eq]
  rcases ixH_of l h with ⟨i0, e, hi0, hlt, hno⟩ | ⟨e, hn⟩
  · have hne : ¬ (i0 : Int) = -1 := by omega
    have hpre : kpF p l i0 = l.take i0 := kpF_pre p fun j hj x hx => by
      rw [hp]
      have this : x ≠ h := fun e => hno j hj (by rw [hx, e])
      simp [this]
    have hph : p h = false := by rw [hp]; simp
    have hF1 : kpF p l (i0 + 1) = l.take i0 := by rw [kpF_next p hi0, hph, cond_false, hpre]
    have hA1 : kpA p l (i0 + 1) = l := by
      unfold kpA
      rw [hF1, List.length_take, Nat.min_eq_left (Nat.le_of_lt hlt), List.take_append_drop]
    have hL1 : (kpF p l (i0 + 1)).length = i0 := by rw [hF1, List.length_take]; omega
    rw [e]
    simp (disch := omega) only [hne, decide_false, cond_false, wrapS]
    have hst : st_delH_1 l h l.length (atL Hd.cs l) (i0 : Int) ((i0 + 1 : Nat) : Int) = (fun t : Nat => st_delH_1 l h l.length (atL Hd.cs (kpA p l (i0 + 1 + t))) ((kpF p l (i0 + 1 + t)).length : Int) ((i0 + 1 + t : Nat) : Int)) 0 := by
      simp only [Nat.add_zero, hA1, hL1]
    rw [hst, forLoop (l.length - (i0 + 1)) (fun t : Nat => st_delH_1 l h l.length (atL Hd.cs (kpA p l (i0 + 1 + t))) ((kpF p l (i0 + 1 + t)).length : Int) ((i0 + 1 + t : Nat) : Int)) (ex_delH_1_1 l h l.length (atL Hd.cs (kpA p l l.length)) ((kpF p l l.length).length : Int) (l.length : Int)) 0 (fun t K ht => ?_) (fun K => ?_) _ (by omega)]
    · have hle := kpF_len p l (Nat.le_refl l.length)
      have q1 : ((kpF p l l.length).length : Int) ≤ (l.length : Int) := by omega
      have q2 : (kpF p l l.length).length + (l.length - (kpF p l l.length).length) ≤ l.length := by omega
      rw [post_delH_1_1]
      simp only [lt_d, ge0_d, Int.toNat_natCast, blt_d, ble_self, beq_self, decide_true, cond_true, Bool.and_self, Bool.and_true, Bool.true_and, gd_true, Nat.zero_add, List.getD_cons_zero, List.getD_cons_succ, isI_int, toI_int, isB_bool, toB_bool, eL_T, arr_ln, arr_fn, arr_wd, arr_is, arr_get, q1, q2, ble_d, Nat.le_refl, Int.le_refl, Nat.sub_zero, hle]
      rw [hf]
      refine ⟨_, rfl, fun j k hj hk => ?_⟩
      unfold fillT
      rw [ble_d, decide_eq_false (by omega : ¬ (kpF p l l.length).length ≤ j)]
      simp only [Bool.false_and, Bool.and_false, cond_false]
      unfold atL kpA
      rw [List.getElem?_append_left hj]
    · have hjt : i0 + 1 + t < l.length := by omega
      have hx := List.getElem?_eq_getElem hjt
      obtain ⟨x, hxe⟩ : ∃ x, x = l[i0 + 1 + t] := ⟨_, rfl⟩
      rw [← hxe] at hx
      have hAx : (kpA p l (i0 + 1 + t))[i0 + 1 + t]? = some x := by rw [kpA_get p l (Nat.le_of_lt hjt), hx]
      have hle := kpF_len p l (Nat.le_of_lt hjt)
      have hF := kpF_next p hx
      have hA := kpA_next p hx
      have q0 : (kpF p l (i0 + 1 + t)).length < l.length := by omega
      have w1 : IntKind.i64.wrap (((i0 + 1 + t : Nat) : Int) + 1) = ((i0 + 1 + (t + 1) : Nat) : Int) := wrapS (by omega)
      have w2 : IntKind.i64.wrap (((kpF p l (i0 + 1 + t)).length : Int) + 1) = (((kpF p l (i0 + 1 + t)).length + 1 : Nat) : Int) := wrapS (by omega)
      have e1 : i0 + 1 + (t + 1) = i0 + 1 + t + 1 := by omega
      rw [round_delH_1]
      simp only [lt_d, ge0_d, Int.toNat_natCast, blt_d, ble_self, beq_self, decide_true, cond_true, Bool.and_self, Bool.and_true, Bool.true_and, gd_true, Nat.zero_add, List.getD_cons_zero, List.getD_cons_succ, isI_int, toI_int, isB_bool, toB_bool, eL_T, arr_ln, arr_fn, arr_wd, arr_is, arr_get, hjt, q0, atL_of hAx, Hd.cs, w1, w2, int_eq, cond_tf, cond_bf, dec_and, hd_e1]
      rw [e1, hF, hA]
      have hpx : p x = !decide (some x = some h) := by rw [hp]; simp
      rw [← hpx]
      cases hb : p x with
      | false => rfl
      | true =>
        simp only [cond_true]
        have hFl : (kpF p l (i0 + 1 + t)).length < (kpA p l (i0 + 1 + t)).length := by rw [kpA_len p l (Nat.le_of_lt hjt)]; exact q0
        obtain ⟨y, hy⟩ : ∃ y, (kpA p l (i0 + 1 + t))[(kpF p l (i0 + 1 + t)).length]? = some y := ⟨_, List.getElem?_eq_getElem hFl⟩
        rw [setF_list (y := { y with slot := x.slot }) hy rfl (by decide : 0 < 2), setF_list (y := x) (set_getH hy) rfl (by decide : 1 < 2), List.set_set, List.length_append]
        rfl
    · have e1 : i0 + 1 + (l.length - (i0 + 1)) = l.length := by omega
      rw [round_delH_1]
      simp only [e1, lt_d, Nat.lt_irrefl, decide_false, cond_false]
  · have hff : f_delH (l, h) = l := by
      unfold f_delH
      refine List.filter_eq_self.2 fun x hx => ?_
      simp only [Bool.not_eq_true', decide_eq_false_iff_not]
      intro e'
      have e' : x = h := e'
      rw [e'] at hx
      exact hn hx
    rw [e, hff]
    simp only [decide_true, cond_true]
    exact ⟨_, rfl, fun _ _ _ _ => rfl⟩
theorem s_delH : EntOk prog i_delH e_delH := ent_ok ea_delH_inj fun x hx => by
  obtain ⟨g, hb, hg⟩ := body_delH x.1 x.2 hx
  exact Sound.cut1 (body_sound (φ := (tabS [(i_ixHd, e_ixHd), (i_Give2, e_Give2)])) (tabS_cons s_ixHd (tabS_cons s_Give2 tabS_nil)) mixed (kp := kp_delH) (n := x.1.length + 1) func64 (c := bodyOf F_delH) (by kernel_rfl) hb (name_ok (by kernel_rfl))) hg
end Go.Mach.F
